/- Contracts of the record: are two the same. -/
import Derived.Test.YtickjmkkgcfkhaaRecC
set_option linter.unusedSimpArgs false
set_option linter.unusedVariables false
set_option maxRecDepth 100000
namespace Go.Proofs.Ytickjmkkgcfkhaa
open Go.RowKit Go.ChangeShapes Go.WideShapes

theorem take_eq_snoc {α : Type} [Inhabited α] {xs ys : List α} {k : Nat} (hx : k < xs.length) (hy : k < ys.length) (h : xs.take k = ys.take k) (he : xs.getD k default = ys.getD k default) : xs.take (k + 1) = ys.take (k + 1) := by
  rw [List.take_succ_eq_append_getElem hx, List.take_succ_eq_append_getElem hy, h]
  simp only [List.getD_eq_getElem?_getD, List.getElem?_eq_getElem hx, List.getElem?_eq_getElem hy, Option.getD_some] at he
  rw [he]
theorem ne_of_get {α : Type} [Inhabited α] {xs ys : List α} {k : Nat} (he : xs.getD k default ≠ ys.getD k default) : xs ≠ ys := fun h => he (by rw [h])
def EqRel (W : World) (xs ys : List (Int × Int)) (i : Value) (wr : World) : Prop := ∃ k : Nat, i = .int .i64 k ∧ k ≤ xs.length ∧ xs.take k = ys.take k ∧ Below W.heap.size W wr
def listEq (xs ys : List (Int × Int)) : Bool := decide (xs = ys)

set_option maxHeartbeats 1600000 in
theorem equal_any (sa sb : Option Addr) (sc sd : Nat) (xs ys : List (Int × Int)) (W : World) (hA : AdjsIn W sa xs) (hB : AdjsIn W sb ys) (hl : xs.length ≤ maxLen) (hl2 : ys.length ≤ maxLen) :
    Calls Try.prog 52 #[.slice sa xs.length sc, .slice sb ys.length sd] W fun e W' => e = .returned (.bool (listEq xs ys)) ∧ Below W.heap.size W W' := by
  unfold maxLen at hl hl2
  by_cases hlen : xs.length = ys.length
  rotate_left
  · have hne : ((xs.length : Int) == (ys.length : Int)) = false := by rw [beq_eq_false_iff_ne]; omega
    have hne2 : (xs.length == ys.length) = false := by rw [beq_eq_false_iff_ne]; exact hlen
    have HE := Lib.hid (show listEq xs ys = false from decide_eq_false fun h => hlen (by rw [h]))
    clear hlen
    go_enter Try.func52, Try.ntmps52
    go_wp2_with fail
    go_returns
    exact ⟨by rw [HE.out]; rfl, Below.refl _ _⟩
  · obtain ⟨n, hn⟩ : ∃ n, n = xs.length := ⟨_, rfl⟩
    rw [← hlen, ← hn]
    rw [← hn] at hl
    have HAD := Lib.hid hA
    have HBD := Lib.hid hB
    have HN := Lib.hid hn
    have HL := Lib.hid hlen
    clear hA hB hn hlen hl2
    go_enter Try.func52, Try.ntmps52
    go_wp2_with fail
    go_loopw [13] (fun i wr => EqRel W xs ys i wr) (fun i _ => n - (intOf i).toNat)
    case atStart => exact ⟨0, rfl, Nat.zero_le _, rfl, Below.refl _ _⟩
    case round =>
      obtain ⟨k, rfl, hk, hp, hb⟩ := hrel
      rw [← HN.out] at hk
      by_cases hlt : k < n
      · have hkx : k < xs.length := by rw [← HN.out]; exact hlt
        have hky : k < ys.length := by rw [← HL.out, ← HN.out]; exact hlt
        have hlti : (k : Int) < (n : Int) := by omega
        obtain ⟨ad, ha, c0, c1⟩ := HAD.out.later hb k hkx
        obtain ⟨bd, hbd, d0, d1⟩ := HBD.out.later hb k hky
        obtain ⟨xa, hxa⟩ : ∃ xa, xa = xs.getD k default := ⟨_, rfl⟩
        obtain ⟨ya, hya⟩ : ∃ ya, ya = ys.getD k default := ⟨_, rfl⟩
        rw [← hxa] at c0 c1
        rw [← hya] at d0 d1
        subst ha
        subst hbd
        have HXA := Lib.hid hxa
        have HYA := Lib.hid hya
        have HP := Lib.hid hp
        have HB := Lib.hid hb
        clear hxa hya hp hb hkx hky
        have hel : (xa = ya) ∨ (xa ≠ ya ∧ xa.1 ≠ ya.1) ∨ (xa ≠ ya ∧ xa.1 = ya.1 ∧ xa.2 ≠ ya.2) := by
          by_cases h : xa = ya
          · exact .inl h
          · by_cases h1 : xa.1 = ya.1
            · exact .inr (.inr ⟨h, h1, fun h2 => h (Prod.ext h1 h2)⟩)
            · exact .inr (.inl ⟨h, h1⟩)
        rcases hel with hel | ⟨hel, h1⟩ | ⟨hel, h1, h2⟩
        · have HR := Lib.hid (show EqRel W xs ys (.int .i64 ((k : Int) + 1)) wr.drew from ⟨k + 1, by go_num, by rw [← HN.out]; omega, take_eq_snoc (by rw [← HN.out]; exact hlt) (by rw [← HL.out, ← HN.out]; exact hlt) HP.out (by rw [← HXA.out, ← HYA.out, hel]), HB.out.trans ⟨rfl, rfl, rfl, Nat.le_refl _, fun _ _ => rfl⟩⟩)
          subst hel
          go_wp2_with fail
          refine wp_region_ord [(0, true), (1, true), (2, true), (3, true), (4, true), (5, true), (6, true), (7, true), (8, true)] (fun V => V = wr.drew) (by kernel_rfl) (by kernel_rfl) (by decide) (by kernel_rfl) (fun d _ _ _ _ h => by cases d <;> exact h) rfl ?_
          iterate 9 ((apply wpOrd_take rfl rfl (by kernel_rfl); (intro V hV; subst hV; go_simp; rfl)); (try simp only [List.setIfInBounds_toArray, List.set_cons_succ, List.set_cons_zero]))
          refine wpOrd_nil ?_
          go_wp2_with fail
          go_roundw
          case rel => first | exact HR.out | ((repeat apply Exists.intro); exact ⟨HR.out, rfl⟩)
          case measure => simp [intOf]; omega
        · have HE := Lib.hid (show listEq xs ys = false from decide_eq_false (ne_of_get (k := k) (by rw [← HXA.out, ← HYA.out]; exact hel)))
          have e1 : (xa.1 == ya.1) = false := by rw [beq_eq_false_iff_ne]; exact h1
          clear hel h1
          go_wp2_with fail
          refine wp_region_ord [(0, true), (1, true), (2, true), (3, true), (4, true), (5, true), (6, true), (7, true), (8, true)] (fun V => V = wr.drew) (by kernel_rfl) (by kernel_rfl) (by decide) (by kernel_rfl) (fun d _ _ _ _ h => by cases d <;> exact h) rfl ?_
          iterate 9 ((apply wpOrd_take rfl rfl (by kernel_rfl); (intro V hV; subst hV; go_simp; rfl)); (try simp only [List.setIfInBounds_toArray, List.set_cons_succ, List.set_cons_zero]))
          refine wpOrd_nil ?_
          go_wp2_with fail
          go_returns
          exact ⟨by rw [HE.out]; rfl, HB.out.trans ⟨rfl, rfl, rfl, Nat.le_refl _, fun _ _ => rfl⟩⟩
        · have HE := Lib.hid (show listEq xs ys = false from decide_eq_false (ne_of_get (k := k) (by rw [← HXA.out, ← HYA.out]; exact hel)))
          have e1 : (xa.1 == ya.1) = true := by rw [beq_iff_eq]; exact h1
          have e2 : (xa.2 == ya.2) = false := by rw [beq_eq_false_iff_ne]; exact h2
          clear hel h1 h2
          go_wp2_with fail
          refine wp_region_ord [(0, true), (1, true), (2, true), (3, true), (4, true), (5, true), (6, true), (7, true), (8, true)] (fun V => V = wr.drew) (by kernel_rfl) (by kernel_rfl) (by decide) (by kernel_rfl) (fun d _ _ _ _ h => by cases d <;> exact h) rfl ?_
          iterate 9 ((apply wpOrd_take rfl rfl (by kernel_rfl); (intro V hV; subst hV; go_simp; rfl)); (try simp only [List.setIfInBounds_toArray, List.set_cons_succ, List.set_cons_zero]))
          refine wpOrd_nil ?_
          go_wp2_with fail
          go_returns
          exact ⟨by rw [HE.out]; rfl, HB.out.trans ⟨rfl, rfl, rfl, Nat.le_refl _, fun _ _ => rfl⟩⟩
      · obtain rfl : k = n := by omega
        have HE := Lib.hid (show listEq xs ys = true from decide_eq_true (by rw [List.take_of_length_le (by rw [← HN.out]; exact Nat.le_refl _), List.take_of_length_le (by rw [← HL.out, ← HN.out]; exact Nat.le_refl _)] at hp; exact hp))
        have HB := Lib.hid hb
        clear hp hb
        go_wp2_with fail
        go_returns
        exact ⟨by rw [HE.out]; rfl, HB.out⟩

/-- Are two the same? -/
def Rc.sm (r q : Rc) : Bool := decide (r = q)
theorem sm_cases (r q : Rc) : (r.org ≠ q.org ∧ r.sm q = false) ∨ (r.org = q.org ∧ r.ep ≠ q.ep ∧ r.sm q = false) ∨ (r.org = q.org ∧ r.ep = q.ep ∧ r.sq ≠ q.sq ∧ r.sm q = false) ∨ (r.org = q.org ∧ r.ep = q.ep ∧ r.sq = q.sq ∧ r.clm ≠ q.clm ∧ r.sm q = false) ∨
    (r.org = q.org ∧ r.ep = q.ep ∧ r.sq = q.sq ∧ r.clm = q.clm ∧ r.ing ≠ q.ing ∧ r.sm q = false) ∨ (r.org = q.org ∧ r.ep = q.ep ∧ r.sq = q.sq ∧ r.clm = q.clm ∧ r.ing = q.ing ∧ r.sm q = listEq r.adjs q.adjs) := by
  obtain ⟨a, b, c, d, e, f⟩ := r
  obtain ⟨a', b', c', d', e', f'⟩ := q
  unfold Rc.sm listEq
  simp only [Rc.mk.injEq]
  by_cases h1 : a = a'
  · by_cases h2 : b = b'
    · by_cases h3 : c = c'
      · by_cases h4 : d = d'
        · by_cases h5 : e = e'
          · simp [h1, h2, h3, h4, h5]
          · simp [h1, h2, h3, h4, h5]
        · simp [h1, h2, h3, h4]
      · simp [h1, h2, h3]
    · simp [h1, h2]
  · simp [h1]
structure SmS (W : World) (r q : Rc) (sa : Option Addr) (sc : Nat) (sb : Option Addr) (sd : Nat) (V : World) : Prop where
  b0 : BoxR W.heap.size r sa sc V
  b1 : BoxR (W.heap.size + 1) q sb sd V
  bel : Below W.heap.size W V
theorem SmS.later {W V X : World} {r q : Rc} {sa : Option Addr} {sc : Nat} {sb : Option Addr} {sd : Nat} (h : SmS W r q sa sc sb sd V) (hb : Below V.heap.size V X) : SmS W r q sa sc sb sd X := ⟨h.b0.later hb, h.b1.later hb, h.bel.trans (hb.mono h.bel.size)⟩
theorem Rc.st_ag (r : Rc) : r.st.ag = .agg #[.int .i64 r.org, .int .u32 r.ep, .int .u32 r.sq] := rfl

set_option maxRecDepth 100000 in
set_option maxHeartbeats 3200000 in
theorem same_any (r q : Rc) (sa : Option Addr) (sc : Nat) (sb : Option Addr) (sd : Nat) (W : World) (hA : AdjsIn W sa r.adjs) (hB : AdjsIn W sb q.adjs) (hl : r.adjs.length ≤ maxLen) (hl2 : q.adjs.length ≤ maxLen) :
    Calls Try.prog 38 #[r.ag sa sc, q.ag sb sd] W fun e W' => e = .returned (.bool (r.sm q)) ∧ Below W.heap.size W W' := by
  obtain ⟨W1, hW1⟩ : ∃ W1, W1 = (W.alloc (.cells (r.cs sa sc) 25)).alloc (.cells (q.cs sb sd) 25) := ⟨_, rfl⟩
  have hb1 : Below W.heap.size W W1 := by rw [hW1]; exact ((Below.refl _ _).alloc (Nat.le_refl _) _).alloc (by rw [World.size_alloc]; omega) _
  have HS := Lib.hid (show SmS W r q sa sc sb sd W1.drew from ⟨by rw [hW1]; exact heap_alloc2_old _ _ _, by rw [hW1]; exact heap_alloc2_new _ _ _, hb1.trans ⟨rfl, rfl, rfl, Nat.le_refl _, fun _ _ => rfl⟩⟩)
  have HW1 := Lib.hid hW1
  have HEQ := Lib.hid (show ∀ V, Below W.heap.size W V → _ from fun V hV => equal_any sa sb sc sd r.adjs q.adjs V (fun i hi => by obtain ⟨ad, h1, h2, h3⟩ := hA i hi; exact ⟨ad, h1, (hV.cell (block_lt_of_cell h2)).trans h2, (hV.cell (block_lt_of_cell h3)).trans h3⟩) (fun i hi => by obtain ⟨ad, h1, h2, h3⟩ := hB i hi; exact ⟨ad, h1, (hV.cell (block_lt_of_cell h2)).trans h2, (hV.cell (block_lt_of_cell h3)).trans h3⟩) hl hl2)
  clear hW1 hb1 hA hB hl hl2
  have hcs := sm_cases r q
  rcases hcs with ⟨h0, he⟩ | ⟨h0, h1, he⟩ | ⟨h0, h1, h2, he⟩ | ⟨h0, h1, h2, h3, he⟩ | ⟨h0, h1, h2, h3, h4, he⟩ | ⟨h0, h1, h2, h3, h4, he⟩
  · have HE := Lib.hid he
    have e0 : (r.org == q.org) = false := by rw [beq_eq_false_iff_ne]; exact h0
    have ne0 : (r.org != q.org) = true := by rw [bne_iff_ne]; exact h0
    clear h0 he
    go_enter Try.func38, Try.ntmps38
    unfold Rc.ag Rc.cs at *
    go_wp2_with fail
    rw [← HW1.out]
    refine wp_region_ord [(0, true), (2, true), (1, false), (3, false), (4, true), (5, true), (6, true), (7, true), (8, true), (9, true), (10, true), (11, true), (12, true), (13, true), (14, true), (15, true), (16, true), (17, true), (18, true), (19, true), (20, true), (21, true), (22, true), (23, true), (24, false), (25, true), (26, true)] (SmS W r q sa sc sb sd) (by kernel_rfl) (by kernel_rfl) (by decide) (by kernel_rfl) (fun d _ _ _ _ h => by cases d <;> exact h) HS.out ?_
    iterate 2 ((apply wpOrd_take rfl rfl (by kernel_rfl); (intro V hV; obtain ⟨x0, x1, x2, x3, x4, x5⟩ := BoxR.cells hV.b0; obtain ⟨y0, y1, y2, y3, y4, y5⟩ := BoxR.cells hV.b1; go_simp; rfl)); (try simp only [List.setIfInBounds_toArray, List.set_cons_succ, List.set_cons_zero]))
    apply wpOrd_do rfl (by kernel_rfl)
    intro K hK
    go_simp
    have hst := stamp_any r sa sc W1.drew
    rw [Rc.st_ag] at hst
    refine hst.mono ?_
    clear hst
    rintro e V1 ⟨rfl, hb⟩
    have HS1 := Lib.hid (HS.out.later hb)
    refine hK _ _ HS1.out ?_
    clear hK K hb
    apply wpOrd_do rfl (by kernel_rfl)
    intro K hK
    go_simp
    have hst := stamp_any q sb sd V1
    rw [Rc.st_ag] at hst
    refine hst.mono ?_
    clear hst
    rintro e V2 ⟨rfl, hb⟩
    have HS2 := Lib.hid (HS1.out.later hb)
    refine hK _ _ HS2.out ?_
    clear hK K hb
    iterate 2 ((apply wpOrd_take rfl rfl (by kernel_rfl); (intro V hV; obtain ⟨x0, x1, x2, x3, x4, x5⟩ := BoxR.cells hV.b0; obtain ⟨y0, y1, y2, y3, y4, y5⟩ := BoxR.cells hV.b1; go_simp; rfl)); (try simp only [List.setIfInBounds_toArray, List.set_cons_succ, List.set_cons_zero]))
    iterate 5 ((apply wpOrd_skip rfl rfl (by kernel_rfl)); (try simp only [List.setIfInBounds_toArray, List.set_cons_succ, List.set_cons_zero]))
    iterate 2 ((apply wpOrd_take rfl rfl (by kernel_rfl); (intro V hV; obtain ⟨x0, x1, x2, x3, x4, x5⟩ := BoxR.cells hV.b0; obtain ⟨y0, y1, y2, y3, y4, y5⟩ := BoxR.cells hV.b1; go_simp; rfl)); (try simp only [List.setIfInBounds_toArray, List.set_cons_succ, List.set_cons_zero]))
    iterate 5 ((apply wpOrd_skip rfl rfl (by kernel_rfl)); (try simp only [List.setIfInBounds_toArray, List.set_cons_succ, List.set_cons_zero]))
    iterate 2 ((apply wpOrd_take rfl rfl (by kernel_rfl); (intro V hV; obtain ⟨x0, x1, x2, x3, x4, x5⟩ := BoxR.cells hV.b0; obtain ⟨y0, y1, y2, y3, y4, y5⟩ := BoxR.cells hV.b1; go_simp; rfl)); (try simp only [List.setIfInBounds_toArray, List.set_cons_succ, List.set_cons_zero]))
    iterate 4 ((apply wpOrd_skip rfl rfl (by kernel_rfl)); (try simp only [List.setIfInBounds_toArray, List.set_cons_succ, List.set_cons_zero]))
    apply wpOrd_undone rfl (by kernel_rfl) HS2.out
    (try simp only [List.setIfInBounds_toArray, List.set_cons_succ, List.set_cons_zero])
    have HS3 := HS2
    iterate 2 ((apply wpOrd_take rfl rfl (by kernel_rfl); (intro V hV; obtain ⟨x0, x1, x2, x3, x4, x5⟩ := BoxR.cells hV.b0; obtain ⟨y0, y1, y2, y3, y4, y5⟩ := BoxR.cells hV.b1; go_simp; rfl)); (try simp only [List.setIfInBounds_toArray, List.set_cons_succ, List.set_cons_zero]))
    refine wpOrd_nil ?_
    go_wp2_with fail
    go_returns
    exact ⟨by rw [HE.out]; rfl, HS3.out.bel⟩
  · have HE := Lib.hid he
    have e0 : (r.org == q.org) = true := by rw [h0]; simp
    have e1 : ((r.ep : Int) == (q.ep : Int)) = false := by rw [beq_eq_false_iff_ne]; omega
    have ne0 : (r.org != q.org) = false := by rw [h0]; simp
    have ne1 : ((r.ep : Int) != (q.ep : Int)) = true := by rw [bne_iff_ne]; omega
    have en1 : (r.ep == q.ep) = false := by rw [beq_eq_false_iff_ne]; exact h1
    clear h0 h1 he
    go_enter Try.func38, Try.ntmps38
    unfold Rc.ag Rc.cs at *
    go_wp2_with fail
    rw [← HW1.out]
    refine wp_region_ord [(0, true), (2, true), (1, false), (3, false), (4, true), (5, true), (6, true), (7, true), (8, true), (9, true), (10, true), (11, true), (12, true), (13, true), (14, true), (15, true), (16, true), (17, true), (18, true), (19, true), (20, true), (21, true), (22, true), (23, true), (24, false), (25, true), (26, true)] (SmS W r q sa sc sb sd) (by kernel_rfl) (by kernel_rfl) (by decide) (by kernel_rfl) (fun d _ _ _ _ h => by cases d <;> exact h) HS.out ?_
    iterate 2 ((apply wpOrd_take rfl rfl (by kernel_rfl); (intro V hV; obtain ⟨x0, x1, x2, x3, x4, x5⟩ := BoxR.cells hV.b0; obtain ⟨y0, y1, y2, y3, y4, y5⟩ := BoxR.cells hV.b1; go_simp; rfl)); (try simp only [List.setIfInBounds_toArray, List.set_cons_succ, List.set_cons_zero]))
    apply wpOrd_do rfl (by kernel_rfl)
    intro K hK
    go_simp
    have hst := stamp_any r sa sc W1.drew
    rw [Rc.st_ag] at hst
    refine hst.mono ?_
    clear hst
    rintro e V1 ⟨rfl, hb⟩
    have HS1 := Lib.hid (HS.out.later hb)
    refine hK _ _ HS1.out ?_
    clear hK K hb
    apply wpOrd_do rfl (by kernel_rfl)
    intro K hK
    go_simp
    have hst := stamp_any q sb sd V1
    rw [Rc.st_ag] at hst
    refine hst.mono ?_
    clear hst
    rintro e V2 ⟨rfl, hb⟩
    have HS2 := Lib.hid (HS1.out.later hb)
    refine hK _ _ HS2.out ?_
    clear hK K hb
    iterate 2 ((apply wpOrd_take rfl rfl (by kernel_rfl); (intro V hV; obtain ⟨x0, x1, x2, x3, x4, x5⟩ := BoxR.cells hV.b0; obtain ⟨y0, y1, y2, y3, y4, y5⟩ := BoxR.cells hV.b1; go_simp; rfl)); (try simp only [List.setIfInBounds_toArray, List.set_cons_succ, List.set_cons_zero]))
    iterate 5 ((apply wpOrd_skip rfl rfl (by kernel_rfl)); (try simp only [List.setIfInBounds_toArray, List.set_cons_succ, List.set_cons_zero]))
    iterate 2 ((apply wpOrd_take rfl rfl (by kernel_rfl); (intro V hV; obtain ⟨x0, x1, x2, x3, x4, x5⟩ := BoxR.cells hV.b0; obtain ⟨y0, y1, y2, y3, y4, y5⟩ := BoxR.cells hV.b1; go_simp; rfl)); (try simp only [List.setIfInBounds_toArray, List.set_cons_succ, List.set_cons_zero]))
    iterate 5 ((apply wpOrd_skip rfl rfl (by kernel_rfl)); (try simp only [List.setIfInBounds_toArray, List.set_cons_succ, List.set_cons_zero]))
    iterate 2 ((apply wpOrd_take rfl rfl (by kernel_rfl); (intro V hV; obtain ⟨x0, x1, x2, x3, x4, x5⟩ := BoxR.cells hV.b0; obtain ⟨y0, y1, y2, y3, y4, y5⟩ := BoxR.cells hV.b1; go_simp; rfl)); (try simp only [List.setIfInBounds_toArray, List.set_cons_succ, List.set_cons_zero]))
    iterate 4 ((apply wpOrd_skip rfl rfl (by kernel_rfl)); (try simp only [List.setIfInBounds_toArray, List.set_cons_succ, List.set_cons_zero]))
    apply wpOrd_undone rfl (by kernel_rfl) HS2.out
    (try simp only [List.setIfInBounds_toArray, List.set_cons_succ, List.set_cons_zero])
    have HS3 := HS2
    iterate 2 ((apply wpOrd_take rfl rfl (by kernel_rfl); (intro V hV; obtain ⟨x0, x1, x2, x3, x4, x5⟩ := BoxR.cells hV.b0; obtain ⟨y0, y1, y2, y3, y4, y5⟩ := BoxR.cells hV.b1; go_simp; rfl)); (try simp only [List.setIfInBounds_toArray, List.set_cons_succ, List.set_cons_zero]))
    refine wpOrd_nil ?_
    go_wp2_with fail
    go_returns
    exact ⟨by rw [HE.out]; rfl, HS3.out.bel⟩
  · have HE := Lib.hid he
    have e0 : (r.org == q.org) = true := by rw [h0]; simp
    have e1 : ((r.ep : Int) == (q.ep : Int)) = true := by rw [h1]; simp
    have e2 : ((r.sq : Int) == (q.sq : Int)) = false := by rw [beq_eq_false_iff_ne]; omega
    have ne0 : (r.org != q.org) = false := by rw [h0]; simp
    have ne1 : ((r.ep : Int) != (q.ep : Int)) = false := by rw [h1]; simp
    have ne2 : ((r.sq : Int) != (q.sq : Int)) = true := by rw [bne_iff_ne]; omega
    have en1 : (r.ep == q.ep) = true := by rw [h1]; simp
    have en2 : (r.sq == q.sq) = false := by rw [beq_eq_false_iff_ne]; exact h2
    clear h0 h1 h2 he
    go_enter Try.func38, Try.ntmps38
    unfold Rc.ag Rc.cs at *
    go_wp2_with fail
    rw [← HW1.out]
    refine wp_region_ord [(0, true), (2, true), (1, false), (3, false), (4, true), (5, true), (6, true), (7, true), (8, true), (9, true), (10, true), (11, true), (12, true), (13, true), (14, true), (15, true), (16, true), (17, true), (18, true), (19, true), (20, true), (21, true), (22, true), (23, true), (24, false), (25, true), (26, true)] (SmS W r q sa sc sb sd) (by kernel_rfl) (by kernel_rfl) (by decide) (by kernel_rfl) (fun d _ _ _ _ h => by cases d <;> exact h) HS.out ?_
    iterate 2 ((apply wpOrd_take rfl rfl (by kernel_rfl); (intro V hV; obtain ⟨x0, x1, x2, x3, x4, x5⟩ := BoxR.cells hV.b0; obtain ⟨y0, y1, y2, y3, y4, y5⟩ := BoxR.cells hV.b1; go_simp; rfl)); (try simp only [List.setIfInBounds_toArray, List.set_cons_succ, List.set_cons_zero]))
    apply wpOrd_do rfl (by kernel_rfl)
    intro K hK
    go_simp
    have hst := stamp_any r sa sc W1.drew
    rw [Rc.st_ag] at hst
    refine hst.mono ?_
    clear hst
    rintro e V1 ⟨rfl, hb⟩
    have HS1 := Lib.hid (HS.out.later hb)
    refine hK _ _ HS1.out ?_
    clear hK K hb
    apply wpOrd_do rfl (by kernel_rfl)
    intro K hK
    go_simp
    have hst := stamp_any q sb sd V1
    rw [Rc.st_ag] at hst
    refine hst.mono ?_
    clear hst
    rintro e V2 ⟨rfl, hb⟩
    have HS2 := Lib.hid (HS1.out.later hb)
    refine hK _ _ HS2.out ?_
    clear hK K hb
    iterate 2 ((apply wpOrd_take rfl rfl (by kernel_rfl); (intro V hV; obtain ⟨x0, x1, x2, x3, x4, x5⟩ := BoxR.cells hV.b0; obtain ⟨y0, y1, y2, y3, y4, y5⟩ := BoxR.cells hV.b1; go_simp; rfl)); (try simp only [List.setIfInBounds_toArray, List.set_cons_succ, List.set_cons_zero]))
    iterate 5 ((apply wpOrd_skip rfl rfl (by kernel_rfl)); (try simp only [List.setIfInBounds_toArray, List.set_cons_succ, List.set_cons_zero]))
    iterate 2 ((apply wpOrd_take rfl rfl (by kernel_rfl); (intro V hV; obtain ⟨x0, x1, x2, x3, x4, x5⟩ := BoxR.cells hV.b0; obtain ⟨y0, y1, y2, y3, y4, y5⟩ := BoxR.cells hV.b1; go_simp; rfl)); (try simp only [List.setIfInBounds_toArray, List.set_cons_succ, List.set_cons_zero]))
    iterate 5 ((apply wpOrd_skip rfl rfl (by kernel_rfl)); (try simp only [List.setIfInBounds_toArray, List.set_cons_succ, List.set_cons_zero]))
    iterate 2 ((apply wpOrd_take rfl rfl (by kernel_rfl); (intro V hV; obtain ⟨x0, x1, x2, x3, x4, x5⟩ := BoxR.cells hV.b0; obtain ⟨y0, y1, y2, y3, y4, y5⟩ := BoxR.cells hV.b1; go_simp; rfl)); (try simp only [List.setIfInBounds_toArray, List.set_cons_succ, List.set_cons_zero]))
    iterate 4 ((apply wpOrd_skip rfl rfl (by kernel_rfl)); (try simp only [List.setIfInBounds_toArray, List.set_cons_succ, List.set_cons_zero]))
    apply wpOrd_undone rfl (by kernel_rfl) HS2.out
    (try simp only [List.setIfInBounds_toArray, List.set_cons_succ, List.set_cons_zero])
    have HS3 := HS2
    iterate 2 ((apply wpOrd_take rfl rfl (by kernel_rfl); (intro V hV; obtain ⟨x0, x1, x2, x3, x4, x5⟩ := BoxR.cells hV.b0; obtain ⟨y0, y1, y2, y3, y4, y5⟩ := BoxR.cells hV.b1; go_simp; rfl)); (try simp only [List.setIfInBounds_toArray, List.set_cons_succ, List.set_cons_zero]))
    refine wpOrd_nil ?_
    go_wp2_with fail
    go_returns
    exact ⟨by rw [HE.out]; rfl, HS3.out.bel⟩
  · have HE := Lib.hid he
    have e0 : (r.org == q.org) = true := by rw [h0]; simp
    have e1 : ((r.ep : Int) == (q.ep : Int)) = true := by rw [h1]; simp
    have e2 : ((r.sq : Int) == (q.sq : Int)) = true := by rw [h2]; simp
    have e3 : (r.clm == q.clm) = false := by rw [beq_eq_false_iff_ne]; exact h3
    have ne0 : (r.org != q.org) = false := by rw [h0]; simp
    have ne1 : ((r.ep : Int) != (q.ep : Int)) = false := by rw [h1]; simp
    have ne2 : ((r.sq : Int) != (q.sq : Int)) = false := by rw [h2]; simp
    have ne3 : (r.clm != q.clm) = true := by rw [bne_iff_ne]; exact h3
    have en1 : (r.ep == q.ep) = true := by rw [h1]; simp
    have en2 : (r.sq == q.sq) = true := by rw [h2]; simp
    clear h0 h1 h2 h3 he
    go_enter Try.func38, Try.ntmps38
    unfold Rc.ag Rc.cs at *
    go_wp2_with fail
    rw [← HW1.out]
    refine wp_region_ord [(0, true), (2, true), (1, false), (3, false), (4, true), (5, true), (6, true), (7, true), (8, true), (9, true), (10, true), (11, true), (12, true), (13, true), (14, true), (15, true), (16, true), (17, true), (18, true), (19, true), (20, true), (21, true), (22, true), (23, true), (24, false), (25, true), (26, true)] (SmS W r q sa sc sb sd) (by kernel_rfl) (by kernel_rfl) (by decide) (by kernel_rfl) (fun d _ _ _ _ h => by cases d <;> exact h) HS.out ?_
    iterate 2 ((apply wpOrd_take rfl rfl (by kernel_rfl); (intro V hV; obtain ⟨x0, x1, x2, x3, x4, x5⟩ := BoxR.cells hV.b0; obtain ⟨y0, y1, y2, y3, y4, y5⟩ := BoxR.cells hV.b1; go_simp; rfl)); (try simp only [List.setIfInBounds_toArray, List.set_cons_succ, List.set_cons_zero]))
    apply wpOrd_do rfl (by kernel_rfl)
    intro K hK
    go_simp
    have hst := stamp_any r sa sc W1.drew
    rw [Rc.st_ag] at hst
    refine hst.mono ?_
    clear hst
    rintro e V1 ⟨rfl, hb⟩
    have HS1 := Lib.hid (HS.out.later hb)
    refine hK _ _ HS1.out ?_
    clear hK K hb
    apply wpOrd_do rfl (by kernel_rfl)
    intro K hK
    go_simp
    have hst := stamp_any q sb sd V1
    rw [Rc.st_ag] at hst
    refine hst.mono ?_
    clear hst
    rintro e V2 ⟨rfl, hb⟩
    have HS2 := Lib.hid (HS1.out.later hb)
    refine hK _ _ HS2.out ?_
    clear hK K hb
    iterate 2 ((apply wpOrd_take rfl rfl (by kernel_rfl); (intro V hV; obtain ⟨x0, x1, x2, x3, x4, x5⟩ := BoxR.cells hV.b0; obtain ⟨y0, y1, y2, y3, y4, y5⟩ := BoxR.cells hV.b1; go_simp; rfl)); (try simp only [List.setIfInBounds_toArray, List.set_cons_succ, List.set_cons_zero]))
    iterate 5 ((apply wpOrd_take rfl rfl (by kernel_rfl); (intro V hV; obtain ⟨x0, x1, x2, x3, x4, x5⟩ := BoxR.cells hV.b0; obtain ⟨y0, y1, y2, y3, y4, y5⟩ := BoxR.cells hV.b1; go_simp; rfl)); (try simp only [List.setIfInBounds_toArray, List.set_cons_succ, List.set_cons_zero]))
    iterate 2 ((apply wpOrd_take rfl rfl (by kernel_rfl); (intro V hV; obtain ⟨x0, x1, x2, x3, x4, x5⟩ := BoxR.cells hV.b0; obtain ⟨y0, y1, y2, y3, y4, y5⟩ := BoxR.cells hV.b1; go_simp; rfl)); (try simp only [List.setIfInBounds_toArray, List.set_cons_succ, List.set_cons_zero]))
    iterate 5 ((apply wpOrd_skip rfl rfl (by kernel_rfl)); (try simp only [List.setIfInBounds_toArray, List.set_cons_succ, List.set_cons_zero]))
    iterate 2 ((apply wpOrd_take rfl rfl (by kernel_rfl); (intro V hV; obtain ⟨x0, x1, x2, x3, x4, x5⟩ := BoxR.cells hV.b0; obtain ⟨y0, y1, y2, y3, y4, y5⟩ := BoxR.cells hV.b1; go_simp; rfl)); (try simp only [List.setIfInBounds_toArray, List.set_cons_succ, List.set_cons_zero]))
    iterate 4 ((apply wpOrd_skip rfl rfl (by kernel_rfl)); (try simp only [List.setIfInBounds_toArray, List.set_cons_succ, List.set_cons_zero]))
    apply wpOrd_undone rfl (by kernel_rfl) HS2.out
    (try simp only [List.setIfInBounds_toArray, List.set_cons_succ, List.set_cons_zero])
    have HS3 := HS2
    iterate 2 ((apply wpOrd_take rfl rfl (by kernel_rfl); (intro V hV; obtain ⟨x0, x1, x2, x3, x4, x5⟩ := BoxR.cells hV.b0; obtain ⟨y0, y1, y2, y3, y4, y5⟩ := BoxR.cells hV.b1; go_simp; rfl)); (try simp only [List.setIfInBounds_toArray, List.set_cons_succ, List.set_cons_zero]))
    refine wpOrd_nil ?_
    go_wp2_with fail
    go_returns
    exact ⟨by rw [HE.out]; rfl, HS3.out.bel⟩
  · have HE := Lib.hid he
    have e0 : (r.org == q.org) = true := by rw [h0]; simp
    have e1 : ((r.ep : Int) == (q.ep : Int)) = true := by rw [h1]; simp
    have e2 : ((r.sq : Int) == (q.sq : Int)) = true := by rw [h2]; simp
    have e3 : (r.clm == q.clm) = true := by rw [h3]; simp
    have e4 : (r.ing == q.ing) = false := by rw [beq_eq_false_iff_ne]; exact h4
    have ne0 : (r.org != q.org) = false := by rw [h0]; simp
    have ne1 : ((r.ep : Int) != (q.ep : Int)) = false := by rw [h1]; simp
    have ne2 : ((r.sq : Int) != (q.sq : Int)) = false := by rw [h2]; simp
    have ne3 : (r.clm != q.clm) = false := by rw [h3]; simp
    have ne4 : (r.ing != q.ing) = true := by rw [bne_iff_ne]; exact h4
    have en1 : (r.ep == q.ep) = true := by rw [h1]; simp
    have en2 : (r.sq == q.sq) = true := by rw [h2]; simp
    clear h0 h1 h2 h3 h4 he
    go_enter Try.func38, Try.ntmps38
    unfold Rc.ag Rc.cs at *
    go_wp2_with fail
    rw [← HW1.out]
    refine wp_region_ord [(0, true), (2, true), (1, false), (3, false), (4, true), (5, true), (6, true), (7, true), (8, true), (9, true), (10, true), (11, true), (12, true), (13, true), (14, true), (15, true), (16, true), (17, true), (18, true), (19, true), (20, true), (21, true), (22, true), (23, true), (24, false), (25, true), (26, true)] (SmS W r q sa sc sb sd) (by kernel_rfl) (by kernel_rfl) (by decide) (by kernel_rfl) (fun d _ _ _ _ h => by cases d <;> exact h) HS.out ?_
    iterate 2 ((apply wpOrd_take rfl rfl (by kernel_rfl); (intro V hV; obtain ⟨x0, x1, x2, x3, x4, x5⟩ := BoxR.cells hV.b0; obtain ⟨y0, y1, y2, y3, y4, y5⟩ := BoxR.cells hV.b1; go_simp; rfl)); (try simp only [List.setIfInBounds_toArray, List.set_cons_succ, List.set_cons_zero]))
    apply wpOrd_do rfl (by kernel_rfl)
    intro K hK
    go_simp
    have hst := stamp_any r sa sc W1.drew
    rw [Rc.st_ag] at hst
    refine hst.mono ?_
    clear hst
    rintro e V1 ⟨rfl, hb⟩
    have HS1 := Lib.hid (HS.out.later hb)
    refine hK _ _ HS1.out ?_
    clear hK K hb
    apply wpOrd_do rfl (by kernel_rfl)
    intro K hK
    go_simp
    have hst := stamp_any q sb sd V1
    rw [Rc.st_ag] at hst
    refine hst.mono ?_
    clear hst
    rintro e V2 ⟨rfl, hb⟩
    have HS2 := Lib.hid (HS1.out.later hb)
    refine hK _ _ HS2.out ?_
    clear hK K hb
    iterate 2 ((apply wpOrd_take rfl rfl (by kernel_rfl); (intro V hV; obtain ⟨x0, x1, x2, x3, x4, x5⟩ := BoxR.cells hV.b0; obtain ⟨y0, y1, y2, y3, y4, y5⟩ := BoxR.cells hV.b1; go_simp; rfl)); (try simp only [List.setIfInBounds_toArray, List.set_cons_succ, List.set_cons_zero]))
    iterate 5 ((apply wpOrd_take rfl rfl (by kernel_rfl); (intro V hV; obtain ⟨x0, x1, x2, x3, x4, x5⟩ := BoxR.cells hV.b0; obtain ⟨y0, y1, y2, y3, y4, y5⟩ := BoxR.cells hV.b1; go_simp; rfl)); (try simp only [List.setIfInBounds_toArray, List.set_cons_succ, List.set_cons_zero]))
    iterate 2 ((apply wpOrd_take rfl rfl (by kernel_rfl); (intro V hV; obtain ⟨x0, x1, x2, x3, x4, x5⟩ := BoxR.cells hV.b0; obtain ⟨y0, y1, y2, y3, y4, y5⟩ := BoxR.cells hV.b1; go_simp; rfl)); (try simp only [List.setIfInBounds_toArray, List.set_cons_succ, List.set_cons_zero]))
    iterate 5 ((apply wpOrd_take rfl rfl (by kernel_rfl); (intro V hV; obtain ⟨x0, x1, x2, x3, x4, x5⟩ := BoxR.cells hV.b0; obtain ⟨y0, y1, y2, y3, y4, y5⟩ := BoxR.cells hV.b1; go_simp; rfl)); (try simp only [List.setIfInBounds_toArray, List.set_cons_succ, List.set_cons_zero]))
    iterate 2 ((apply wpOrd_take rfl rfl (by kernel_rfl); (intro V hV; obtain ⟨x0, x1, x2, x3, x4, x5⟩ := BoxR.cells hV.b0; obtain ⟨y0, y1, y2, y3, y4, y5⟩ := BoxR.cells hV.b1; go_simp; rfl)); (try simp only [List.setIfInBounds_toArray, List.set_cons_succ, List.set_cons_zero]))
    iterate 4 ((apply wpOrd_skip rfl rfl (by kernel_rfl)); (try simp only [List.setIfInBounds_toArray, List.set_cons_succ, List.set_cons_zero]))
    apply wpOrd_undone rfl (by kernel_rfl) HS2.out
    (try simp only [List.setIfInBounds_toArray, List.set_cons_succ, List.set_cons_zero])
    have HS3 := HS2
    iterate 2 ((apply wpOrd_take rfl rfl (by kernel_rfl); (intro V hV; obtain ⟨x0, x1, x2, x3, x4, x5⟩ := BoxR.cells hV.b0; obtain ⟨y0, y1, y2, y3, y4, y5⟩ := BoxR.cells hV.b1; go_simp; rfl)); (try simp only [List.setIfInBounds_toArray, List.set_cons_succ, List.set_cons_zero]))
    refine wpOrd_nil ?_
    go_wp2_with fail
    go_returns
    exact ⟨by rw [HE.out]; rfl, HS3.out.bel⟩
  · have HE := Lib.hid he
    have e0 : (r.org == q.org) = true := by rw [h0]; simp
    have e1 : ((r.ep : Int) == (q.ep : Int)) = true := by rw [h1]; simp
    have e2 : ((r.sq : Int) == (q.sq : Int)) = true := by rw [h2]; simp
    have e3 : (r.clm == q.clm) = true := by rw [h3]; simp
    have e4 : (r.ing == q.ing) = true := by rw [h4]; simp
    have ne0 : (r.org != q.org) = false := by rw [h0]; simp
    have ne1 : ((r.ep : Int) != (q.ep : Int)) = false := by rw [h1]; simp
    have ne2 : ((r.sq : Int) != (q.sq : Int)) = false := by rw [h2]; simp
    have ne3 : (r.clm != q.clm) = false := by rw [h3]; simp
    have ne4 : (r.ing != q.ing) = false := by rw [h4]; simp
    have en1 : (r.ep == q.ep) = true := by rw [h1]; simp
    have en2 : (r.sq == q.sq) = true := by rw [h2]; simp
    clear h0 h1 h2 h3 h4 he
    go_enter Try.func38, Try.ntmps38
    unfold Rc.ag Rc.cs at *
    go_wp2_with fail
    rw [← HW1.out]
    refine wp_region_ord [(0, true), (2, true), (1, false), (3, false), (4, true), (5, true), (6, true), (7, true), (8, true), (9, true), (10, true), (11, true), (12, true), (13, true), (14, true), (15, true), (16, true), (17, true), (18, true), (19, true), (20, true), (21, true), (22, true), (23, true), (24, false), (25, true), (26, true)] (SmS W r q sa sc sb sd) (by kernel_rfl) (by kernel_rfl) (by decide) (by kernel_rfl) (fun d _ _ _ _ h => by cases d <;> exact h) HS.out ?_
    iterate 2 ((apply wpOrd_take rfl rfl (by kernel_rfl); (intro V hV; obtain ⟨x0, x1, x2, x3, x4, x5⟩ := BoxR.cells hV.b0; obtain ⟨y0, y1, y2, y3, y4, y5⟩ := BoxR.cells hV.b1; go_simp; rfl)); (try simp only [List.setIfInBounds_toArray, List.set_cons_succ, List.set_cons_zero]))
    apply wpOrd_do rfl (by kernel_rfl)
    intro K hK
    go_simp
    have hst := stamp_any r sa sc W1.drew
    rw [Rc.st_ag] at hst
    refine hst.mono ?_
    clear hst
    rintro e V1 ⟨rfl, hb⟩
    have HS1 := Lib.hid (HS.out.later hb)
    refine hK _ _ HS1.out ?_
    clear hK K hb
    apply wpOrd_do rfl (by kernel_rfl)
    intro K hK
    go_simp
    have hst := stamp_any q sb sd V1
    rw [Rc.st_ag] at hst
    refine hst.mono ?_
    clear hst
    rintro e V2 ⟨rfl, hb⟩
    have HS2 := Lib.hid (HS1.out.later hb)
    refine hK _ _ HS2.out ?_
    clear hK K hb
    iterate 2 ((apply wpOrd_take rfl rfl (by kernel_rfl); (intro V hV; obtain ⟨x0, x1, x2, x3, x4, x5⟩ := BoxR.cells hV.b0; obtain ⟨y0, y1, y2, y3, y4, y5⟩ := BoxR.cells hV.b1; go_simp; rfl)); (try simp only [List.setIfInBounds_toArray, List.set_cons_succ, List.set_cons_zero]))
    iterate 5 ((apply wpOrd_take rfl rfl (by kernel_rfl); (intro V hV; obtain ⟨x0, x1, x2, x3, x4, x5⟩ := BoxR.cells hV.b0; obtain ⟨y0, y1, y2, y3, y4, y5⟩ := BoxR.cells hV.b1; go_simp; rfl)); (try simp only [List.setIfInBounds_toArray, List.set_cons_succ, List.set_cons_zero]))
    iterate 2 ((apply wpOrd_take rfl rfl (by kernel_rfl); (intro V hV; obtain ⟨x0, x1, x2, x3, x4, x5⟩ := BoxR.cells hV.b0; obtain ⟨y0, y1, y2, y3, y4, y5⟩ := BoxR.cells hV.b1; go_simp; rfl)); (try simp only [List.setIfInBounds_toArray, List.set_cons_succ, List.set_cons_zero]))
    iterate 5 ((apply wpOrd_take rfl rfl (by kernel_rfl); (intro V hV; obtain ⟨x0, x1, x2, x3, x4, x5⟩ := BoxR.cells hV.b0; obtain ⟨y0, y1, y2, y3, y4, y5⟩ := BoxR.cells hV.b1; go_simp; rfl)); (try simp only [List.setIfInBounds_toArray, List.set_cons_succ, List.set_cons_zero]))
    iterate 2 ((apply wpOrd_take rfl rfl (by kernel_rfl); (intro V hV; obtain ⟨x0, x1, x2, x3, x4, x5⟩ := BoxR.cells hV.b0; obtain ⟨y0, y1, y2, y3, y4, y5⟩ := BoxR.cells hV.b1; go_simp; rfl)); (try simp only [List.setIfInBounds_toArray, List.set_cons_succ, List.set_cons_zero]))
    iterate 4 ((apply wpOrd_take rfl rfl (by kernel_rfl); (intro V hV; obtain ⟨x0, x1, x2, x3, x4, x5⟩ := BoxR.cells hV.b0; obtain ⟨y0, y1, y2, y3, y4, y5⟩ := BoxR.cells hV.b1; go_simp; rfl)); (try simp only [List.setIfInBounds_toArray, List.set_cons_succ, List.set_cons_zero]))
    apply wpOrd_do rfl (by kernel_rfl)
    intro K hK
    go_simp
    refine (HEQ.out _ HS2.out.bel).mono ?_
    rintro e V3 ⟨rfl, hb⟩
    have HS3 := Lib.hid (HS2.out.later hb)
    refine hK _ _ HS3.out ?_
    clear hK K hb
    iterate 2 ((apply wpOrd_take rfl rfl (by kernel_rfl); (intro V hV; obtain ⟨x0, x1, x2, x3, x4, x5⟩ := BoxR.cells hV.b0; obtain ⟨y0, y1, y2, y3, y4, y5⟩ := BoxR.cells hV.b1; go_simp; rfl)); (try simp only [List.setIfInBounds_toArray, List.set_cons_succ, List.set_cons_zero]))
    refine wpOrd_nil ?_
    go_wp2_with fail
    go_returns
    exact ⟨by rw [HE.out]; rfl, HS3.out.bel⟩

def RSmRel (W : World) (r q : Rc) (sa : Option Addr) (sc : Nat) (sb : Option Addr) (sd : Nat) (i : Value) (wr : World) : Prop :=
  ∃ k : Nat, i = .int .i64 k ∧ k ≤ r.adjs.length ∧ r.adjs.take k = q.adjs.take k ∧ BoxR W.heap.size r sa sc wr ∧ BoxR (W.heap.size + 1) q sb sd wr ∧ Below W.heap.size W wr
end Go.Proofs.Ytickjmkkgcfkhaa
