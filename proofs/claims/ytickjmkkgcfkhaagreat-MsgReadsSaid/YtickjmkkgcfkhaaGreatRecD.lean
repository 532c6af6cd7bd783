/- Contracts of the record: are two the same. -/
import Derived.Test.YtickjmkkgcfkhaaGreatRecC
set_option linter.unusedSimpArgs false
set_option linter.unusedVariables false
set_option maxRecDepth 100000
namespace Go.Proofs.YtickjmkkgcfkhaaGreat
open Go.RowKit Go.ChangeShapes Go.WideShapes

theorem take_eq_snoc {α : Type} [Inhabited α] {xs ys : List α} {k : Nat} (hx : k < xs.length) (hy : k < ys.length) (h : xs.take k = ys.take k) (he : xs.getD k default = ys.getD k default) : xs.take (k + 1) = ys.take (k + 1) := by
  rw [List.take_succ_eq_append_getElem hx, List.take_succ_eq_append_getElem hy, h]
  simp only [List.getD_eq_getElem?_getD, List.getElem?_eq_getElem hx, List.getElem?_eq_getElem hy, Option.getD_some] at he
  rw [he]
theorem ne_of_get {α : Type} [Inhabited α] {xs ys : List α} {k : Nat} (he : xs.getD k default ≠ ys.getD k default) : xs ≠ ys := fun h => he (by rw [h])
def EqRel (W : World) (xs ys : List (Int × Int)) (i : Value) (wr : World) : Prop := ∃ k : Nat, i = .int .i64 k ∧ k ≤ xs.length ∧ xs.take k = ys.take k ∧ Below W.heap.size W wr
def listEq (xs ys : List (Int × Int)) : Bool := decide (xs = ys)

/-- Are two the same? -/
def Rc.sm (r q : Rc) : Bool := decide (r = q)
theorem sm_cases (r q : Rc) : (r.org ≠ q.org ∧ r.sm q = false) ∨ (r.org = q.org ∧ r.ep ≠ q.ep ∧ r.sm q = false) ∨ (r.org = q.org ∧ r.ep = q.ep ∧ r.sq ≠ q.sq ∧ r.sm q = false) ∨ (r.org = q.org ∧ r.ep = q.ep ∧ r.sq = q.sq ∧ r.clm ≠ q.clm ∧ r.sm q = false) ∨
    (r.org = q.org ∧ r.ep = q.ep ∧ r.sq = q.sq ∧ r.clm = q.clm ∧ r.ing ≠ q.ing ∧ r.sm q = false) ∨ (r.org = q.org ∧ r.ep = q.ep ∧ r.sq = q.sq ∧ r.clm = q.clm ∧ r.ing = q.ing ∧ r.sm q = listEq r.adjs q.adjs) := by
  obtain ⟨a, b, c, d, e, f⟩ := r
  obtain ⟨a', b', c', d', e', f'⟩ := q
  unfold Rc.sm listEq
  simp only [Rc.mk.injEq]
  by_cases h1 : a = a'
  · by_cases h2 : b = b'
    · by_cases h3 : c = c'
      · by_cases h4 : d = d'
        · by_cases h5 : e = e'
          · simp [h1, h2, h3, h4, h5]
          · simp [h1, h2, h3, h4, h5]
        · simp [h1, h2, h3, h4]
      · simp [h1, h2, h3]
    · simp [h1, h2]
  · simp [h1]
structure SmS (W : World) (r q : Rc) (sa : Option Addr) (sc : Nat) (sb : Option Addr) (sd : Nat) (V : World) : Prop where
  b0 : BoxR W.heap.size r sa sc V
  b1 : BoxR (W.heap.size + 1) q sb sd V
  bel : Below W.heap.size W V
theorem SmS.later {W V X : World} {r q : Rc} {sa : Option Addr} {sc : Nat} {sb : Option Addr} {sd : Nat} (h : SmS W r q sa sc sb sd V) (hb : Below V.heap.size V X) : SmS W r q sa sc sb sd X := ⟨h.b0.later hb, h.b1.later hb, h.bel.trans (hb.mono h.bel.size)⟩
theorem Rc.st_ag (r : Rc) : r.st.ag = .agg #[.int .i64 r.org, .int .u32 r.ep, .int .u32 r.sq] := rfl

def RSmRel (W : World) (r q : Rc) (sa : Option Addr) (sc : Nat) (sb : Option Addr) (sd : Nat) (i : Value) (wr : World) : Prop :=
  ∃ k : Nat, i = .int .i64 k ∧ k ≤ r.adjs.length ∧ r.adjs.take k = q.adjs.take k ∧ BoxR W.heap.size r sa sc wr ∧ BoxR (W.heap.size + 1) q sb sd wr ∧ Below W.heap.size W wr
set_option maxRecDepth 100000 in
set_option maxHeartbeats 3200000 in
theorem rsame_any (r q : Rc) (sa : Option Addr) (sc : Nat) (sb : Option Addr) (sd : Nat) (W : World) (hA : AdjsIn W sa r.adjs) (hB : AdjsIn W sb q.adjs) (hl : r.adjs.length ≤ maxLen) (hl2 : q.adjs.length ≤ maxLen) :
    Calls Tryz.prog 19 #[r.ag sa sc, q.ag sb sd] W fun e W' => e = .returned (.bool (r.sm q)) ∧ Below W.heap.size W W' := by
  unfold maxLen at hl hl2
  obtain ⟨W1, hW1⟩ : ∃ W1, W1 = (W.alloc (.cells (r.cs sa sc) 25)).alloc (.cells (q.cs sb sd) 25) := ⟨_, rfl⟩
  have hb1 : Below W.heap.size W W1 := by rw [hW1]; exact ((Below.refl _ _).alloc (Nat.le_refl _) _).alloc (by rw [World.size_alloc]; omega) _
  have hs1 : SmS W r q sa sc sb sd W1 := ⟨by rw [hW1]; exact heap_alloc2_old _ _ _, by rw [hW1]; exact heap_alloc2_new _ _ _, hb1⟩
  have HS0 := Lib.hid hs1
  have HW1 := Lib.hid hW1
  have HV := Lib.hid (show ∀ V, Below W.heap.size W V → AdjsIn V sa r.adjs ∧ AdjsIn V sb q.adjs from fun V hV => ⟨hA.later hV, hB.later hV⟩)
  clear hW1 hb1 hA hB hs1
  have hcs := sm_cases r q
  rcases hcs with ⟨h0, he⟩ | ⟨h0, h1, he⟩ | ⟨h0, h1, h2, he⟩ | ⟨h0, h1, h2, h3, he⟩ | ⟨h0, h1, h2, h3, h4, he⟩ | ⟨h0, h1, h2, h3, h4, he⟩
  · have HE := Lib.hid he
    have e0 : (r.org == q.org) = false := by rw [beq_eq_false_iff_ne]; exact h0
    have ne0 : (r.org != q.org) = true := by rw [bne_iff_ne]; exact h0
    clear h0 he
    go_enter Tryz.func19, Tryz.ntmps19
    unfold Rc.ag Rc.cs at *
    go_wp2_with fail
    go_returns
    exact ⟨by rw [HE.out]; rfl, ((Below.refl _ _).alloc (Nat.le_refl _) _).alloc (by rw [World.size_alloc]; omega) _⟩
  · have HE := Lib.hid he
    have e0 : (r.org == q.org) = true := by rw [h0]; simp
    have e1 : ((r.ep : Int) == (q.ep : Int)) = false := by rw [beq_eq_false_iff_ne]; omega
    have ne0 : (r.org != q.org) = false := by rw [h0]; simp
    have ne1 : ((r.ep : Int) != (q.ep : Int)) = true := by rw [bne_iff_ne]; omega
    have en1 : (r.ep == q.ep) = false := by rw [beq_eq_false_iff_ne]; exact h1
    clear h0 h1 he
    go_enter Tryz.func19, Tryz.ntmps19
    unfold Rc.ag Rc.cs at *
    go_wp2_with fail
    go_returns
    exact ⟨by rw [HE.out]; rfl, ((Below.refl _ _).alloc (Nat.le_refl _) _).alloc (by rw [World.size_alloc]; omega) _⟩
  · have HE := Lib.hid he
    have e0 : (r.org == q.org) = true := by rw [h0]; simp
    have e1 : ((r.ep : Int) == (q.ep : Int)) = true := by rw [h1]; simp
    have e2 : ((r.sq : Int) == (q.sq : Int)) = false := by rw [beq_eq_false_iff_ne]; omega
    have ne0 : (r.org != q.org) = false := by rw [h0]; simp
    have ne1 : ((r.ep : Int) != (q.ep : Int)) = false := by rw [h1]; simp
    have ne2 : ((r.sq : Int) != (q.sq : Int)) = true := by rw [bne_iff_ne]; omega
    have en1 : (r.ep == q.ep) = true := by rw [h1]; simp
    have en2 : (r.sq == q.sq) = false := by rw [beq_eq_false_iff_ne]; exact h2
    clear h0 h1 h2 he
    go_enter Tryz.func19, Tryz.ntmps19
    unfold Rc.ag Rc.cs at *
    go_wp2_with fail
    go_returns
    exact ⟨by rw [HE.out]; rfl, ((Below.refl _ _).alloc (Nat.le_refl _) _).alloc (by rw [World.size_alloc]; omega) _⟩
  · have HE := Lib.hid he
    have e0 : (r.org == q.org) = true := by rw [h0]; simp
    have e1 : ((r.ep : Int) == (q.ep : Int)) = true := by rw [h1]; simp
    have e2 : ((r.sq : Int) == (q.sq : Int)) = true := by rw [h2]; simp
    have e3 : (r.clm == q.clm) = false := by rw [beq_eq_false_iff_ne]; exact h3
    have ne0 : (r.org != q.org) = false := by rw [h0]; simp
    have ne1 : ((r.ep : Int) != (q.ep : Int)) = false := by rw [h1]; simp
    have ne2 : ((r.sq : Int) != (q.sq : Int)) = false := by rw [h2]; simp
    have ne3 : (r.clm != q.clm) = true := by rw [bne_iff_ne]; exact h3
    have en1 : (r.ep == q.ep) = true := by rw [h1]; simp
    have en2 : (r.sq == q.sq) = true := by rw [h2]; simp
    clear h0 h1 h2 h3 he
    go_enter Tryz.func19, Tryz.ntmps19
    unfold Rc.ag Rc.cs at *
    go_wp2_with fail
    go_returns
    exact ⟨by rw [HE.out]; rfl, ((Below.refl _ _).alloc (Nat.le_refl _) _).alloc (by rw [World.size_alloc]; omega) _⟩
  · have HE := Lib.hid he
    have e0 : (r.org == q.org) = true := by rw [h0]; simp
    have e1 : ((r.ep : Int) == (q.ep : Int)) = true := by rw [h1]; simp
    have e2 : ((r.sq : Int) == (q.sq : Int)) = true := by rw [h2]; simp
    have e3 : (r.clm == q.clm) = true := by rw [h3]; simp
    have e4 : (r.ing == q.ing) = false := by rw [beq_eq_false_iff_ne]; exact h4
    have ne0 : (r.org != q.org) = false := by rw [h0]; simp
    have ne1 : ((r.ep : Int) != (q.ep : Int)) = false := by rw [h1]; simp
    have ne2 : ((r.sq : Int) != (q.sq : Int)) = false := by rw [h2]; simp
    have ne3 : (r.clm != q.clm) = false := by rw [h3]; simp
    have ne4 : (r.ing != q.ing) = true := by rw [bne_iff_ne]; exact h4
    have en1 : (r.ep == q.ep) = true := by rw [h1]; simp
    have en2 : (r.sq == q.sq) = true := by rw [h2]; simp
    clear h0 h1 h2 h3 h4 he
    go_enter Tryz.func19, Tryz.ntmps19
    unfold Rc.ag Rc.cs at *
    go_wp2_with fail
    go_returns
    exact ⟨by rw [HE.out]; rfl, ((Below.refl _ _).alloc (Nat.le_refl _) _).alloc (by rw [World.size_alloc]; omega) _⟩
  · by_cases hlen : r.adjs.length = q.adjs.length
    rotate_left
    · have hne : ((r.adjs.length : Int) == (q.adjs.length : Int)) = false := by rw [beq_eq_false_iff_ne]; omega
      have hne2 : (r.adjs.length == q.adjs.length) = false := by rw [beq_eq_false_iff_ne]; exact hlen
      have HE := Lib.hid (show r.sm q = false by rw [he]; exact decide_eq_false fun h => hlen (by rw [h]))
      have e0 : (r.org == q.org) = true := by rw [h0]; simp
      have e1 : ((r.ep : Int) == (q.ep : Int)) = true := by rw [h1]; simp
      have e2 : ((r.sq : Int) == (q.sq : Int)) = true := by rw [h2]; simp
      have e3 : (r.clm == q.clm) = true := by rw [h3]; simp
      have e4 : (r.ing == q.ing) = true := by rw [h4]; simp
      have ne0 : (r.org != q.org) = false := by rw [h0]; simp
      have ne1 : ((r.ep : Int) != (q.ep : Int)) = false := by rw [h1]; simp
      have ne2 : ((r.sq : Int) != (q.sq : Int)) = false := by rw [h2]; simp
      have ne3 : (r.clm != q.clm) = false := by rw [h3]; simp
      have ne4 : (r.ing != q.ing) = false := by rw [h4]; simp
      have en1 : (r.ep == q.ep) = true := by rw [h1]; simp
      have en2 : (r.sq == q.sq) = true := by rw [h2]; simp
      clear hlen he h0 h1 h2 h3 h4
      go_enter Tryz.func19, Tryz.ntmps19
      unfold Rc.ag Rc.cs at *
      go_wp2_with fail
      go_returns
      exact ⟨by rw [HE.out]; rfl, ((Below.refl _ _).alloc (Nat.le_refl _) _).alloc (by rw [World.size_alloc]; omega) _⟩
    · obtain ⟨n, hn⟩ : ∃ n, n = r.adjs.length := ⟨_, rfl⟩
      have hcsr : r.ag sa sc = .agg #[.int .i64 r.org, .int .u32 r.ep, .int .u32 r.sq, .int .i64 r.clm, .bool r.ing, .slice sa n sc] := by rw [hn]; rfl
      have hcsq : q.ag sb sd = .agg #[.int .i64 r.org, .int .u32 r.ep, .int .u32 r.sq, .int .i64 r.clm, .bool r.ing, .slice sb n sd] := by rw [h0, h1, h2, h3, h4, hn, hlen]; rfl
      have hwr : W1 = (W.alloc (.cells #[.int .i64 r.org, .int .u32 r.ep, .int .u32 r.sq, .int .i64 r.clm, .bool r.ing, .slice sa n sc] 25)).alloc (.cells #[.int .i64 r.org, .int .u32 r.ep, .int .u32 r.sq, .int .i64 r.clm, .bool r.ing, .slice sb n sd] 25) := by rw [hn, HW1.out]; unfold Rc.cs; rw [hlen, h0, h1, h2, h3, h4]
      have HWR := Lib.hid hwr
      have HLE := Lib.hid he
      rw [hcsr, hcsq]
      rw [← hn] at hl
      have HN := Lib.hid hn
      have HL := Lib.hid hlen
      clear hn hlen hl2 hcsr hcsq hwr he h0 h1 h2 h3 h4
      go_enter Tryz.func19, Tryz.ntmps19
      go_wp2_with fail
      rw [← HWR.out]
      go_loopw [5] (fun i wr => RSmRel W r q sa sc sb sd i wr) (fun i _ => n - (intOf i).toNat)
      case atStart => exact ⟨0, rfl, Nat.zero_le _, rfl, HS0.out.b0, HS0.out.b1, HS0.out.bel⟩
      case round =>
        obtain ⟨k, rfl, hk, hp, hb0, hb1, hb⟩ := hrel
        rw [← HN.out] at hk
        have x5 := hb0.cells.2.2.2.2.2
        have y5 := hb1.cells.2.2.2.2.2
        rw [← HN.out] at x5
        rw [← HL.out, ← HN.out] at y5
        by_cases hlt : k < n
        · have hkx : k < r.adjs.length := by rw [← HN.out]; exact hlt
          have hky : k < q.adjs.length := by rw [← HL.out, ← HN.out]; exact hlt
          have hlti : (k : Int) < (n : Int) := by omega
          obtain ⟨hAV, hBV⟩ := HV.out _ hb
          obtain ⟨ad, ha, c0, c1⟩ := hAV k hkx
          obtain ⟨bd, hbd, d0, d1⟩ := hBV k hky
          obtain ⟨xa, hxa⟩ : ∃ xa, xa = r.adjs.getD k default := ⟨_, rfl⟩
          obtain ⟨ya, hya⟩ : ∃ ya, ya = q.adjs.getD k default := ⟨_, rfl⟩
          rw [← hxa] at c0 c1
          rw [← hya] at d0 d1
          subst ha
          subst hbd
          have HXA := Lib.hid hxa
          have HYA := Lib.hid hya
          have HP := Lib.hid hp
          have HS := Lib.hid (And.intro hb0 (And.intro hb1 hb))
          clear hxa hya hp hb hb0 hb1 hkx hky hAV hBV
          have hel : (xa = ya) ∨ (xa ≠ ya ∧ xa.1 ≠ ya.1) ∨ (xa ≠ ya ∧ xa.1 = ya.1 ∧ xa.2 ≠ ya.2) := by
            by_cases h : xa = ya
            · exact .inl h
            · by_cases h1 : xa.1 = ya.1
              · exact .inr (.inr ⟨h, h1, fun h2 => h (Prod.ext h1 h2)⟩)
              · exact .inr (.inl ⟨h, h1⟩)
          rcases hel with hel | ⟨hel, h1⟩ | ⟨hel, h1, h2⟩
          · have HR := Lib.hid (show RSmRel W r q (some ad) sc (some bd) sd (.int .i64 ((k : Int) + 1)) wr.drew from ⟨k + 1, by go_num, by rw [← HN.out]; omega, take_eq_snoc (by rw [← HN.out]; exact hlt) (by rw [← HL.out, ← HN.out]; exact hlt) HP.out (by rw [← HXA.out, ← HYA.out, hel]), HS.out.1, HS.out.2.1, HS.out.2.2.trans ⟨rfl, rfl, rfl, Nat.le_refl _, fun _ _ => rfl⟩⟩)
            subst hel
            go_wp2_with fail
            refine wp_region_ord [(0, true), (1, true), (2, true), (3, true), (4, true), (5, true), (6, true), (7, true), (8, true), (9, true), (10, true)] (fun V => V = wr.drew) (by kernel_rfl) (by kernel_rfl) (by decide) (by kernel_rfl) (fun d _ _ _ _ h => by cases d <;> exact h) rfl ?_
            iterate 11 ((apply wpOrd_take rfl rfl (by kernel_rfl); (intro V hV; subst hV; go_simp; rfl)); (try simp only [List.setIfInBounds_toArray, List.set_cons_succ, List.set_cons_zero]))
            refine wpOrd_nil ?_
            go_wp2_with fail
            go_roundw
            case rel => first | exact HR.out | ((repeat apply Exists.intro); exact ⟨HR.out, rfl⟩)
            case measure => simp [intOf]; omega
          · have HE := Lib.hid (show r.sm q = false from decide_eq_false (fun h => ne_of_get (k := k) (xs := r.adjs) (ys := q.adjs) (by rw [← HXA.out, ← HYA.out]; exact hel) (by rw [h])))
            have e1 : (xa.1 == ya.1) = false := by rw [beq_eq_false_iff_ne]; exact h1
            clear hel h1
            go_wp2_with fail
            refine wp_region_ord [(0, true), (1, true), (2, true), (3, true), (4, true), (5, true), (6, true), (7, true), (8, true), (9, true), (10, true)] (fun V => V = wr.drew) (by kernel_rfl) (by kernel_rfl) (by decide) (by kernel_rfl) (fun d _ _ _ _ h => by cases d <;> exact h) rfl ?_
            iterate 11 ((apply wpOrd_take rfl rfl (by kernel_rfl); (intro V hV; subst hV; go_simp; rfl)); (try simp only [List.setIfInBounds_toArray, List.set_cons_succ, List.set_cons_zero]))
            refine wpOrd_nil ?_
            go_wp2_with fail
            go_returns
            exact ⟨by rw [HE.out]; rfl, HS.out.2.2.trans ⟨rfl, rfl, rfl, Nat.le_refl _, fun _ _ => rfl⟩⟩
          · have HE := Lib.hid (show r.sm q = false from decide_eq_false (fun h => ne_of_get (k := k) (xs := r.adjs) (ys := q.adjs) (by rw [← HXA.out, ← HYA.out]; exact hel) (by rw [h])))
            have e1 : (xa.1 == ya.1) = true := by rw [beq_iff_eq]; exact h1
            have e2 : (xa.2 == ya.2) = false := by rw [beq_eq_false_iff_ne]; exact h2
            clear hel h1 h2
            go_wp2_with fail
            refine wp_region_ord [(0, true), (1, true), (2, true), (3, true), (4, true), (5, true), (6, true), (7, true), (8, true), (9, true), (10, true)] (fun V => V = wr.drew) (by kernel_rfl) (by kernel_rfl) (by decide) (by kernel_rfl) (fun d _ _ _ _ h => by cases d <;> exact h) rfl ?_
            iterate 11 ((apply wpOrd_take rfl rfl (by kernel_rfl); (intro V hV; subst hV; go_simp; rfl)); (try simp only [List.setIfInBounds_toArray, List.set_cons_succ, List.set_cons_zero]))
            refine wpOrd_nil ?_
            go_wp2_with fail
            go_returns
            exact ⟨by rw [HE.out]; rfl, HS.out.2.2.trans ⟨rfl, rfl, rfl, Nat.le_refl _, fun _ _ => rfl⟩⟩
        · obtain rfl : k = n := by omega
          have HE := Lib.hid (show r.sm q = true by rw [HLE.out]; exact decide_eq_true (by rw [List.take_of_length_le (by rw [← HN.out]; exact Nat.le_refl _), List.take_of_length_le (by rw [← HL.out, ← HN.out]; exact Nat.le_refl _)] at hp; exact hp))
          have HB := Lib.hid hb
          clear hp hb hb0 hb1
          go_wp2_with fail
          go_returns
          exact ⟨by rw [HE.out]; rfl, HB.out⟩

end Go.Proofs.YtickjmkkgcfkhaaGreat
