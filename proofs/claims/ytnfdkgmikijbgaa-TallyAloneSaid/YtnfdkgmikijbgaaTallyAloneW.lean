/- The walk of the law TallyAlone. -/
import Derived.Test.YtnfdkgmikijbgaaTallyI
import Derived.Outline
set_option linter.unusedSimpArgs false
set_option linter.unusedVariables false
namespace Go.Proofs.Ytnfdkgmikijbgaa
open Go.RowKit Go.ChangeShapes Go.WideShapes

def AloneRel (W : World) (m : Nat) (i : Value) (wr : World) : Prop :=
  ∃ (k : Nat) (L : List Cn), i = .int .i64 k ∧ k ≤ m ∧ k ≤ 30 ∧ TAt wr W.heap.size W.heap.size L ∧ Below W.heap.size W wr
theorem addr_add_zero (a : Addr) : a.add 0 = a := by simp [Addr.add]
/-- A router's number off a byte. -/
theorem rt_facts {x : Int} (h0 : 0 ≤ x) (h1 : x ≤ 255) : ∃ q : Nat, q < 24 ∧ x.tmod 24 = (q : Int) ∧ IntKind.i64.wrap (q : Int) = (q : Int) ∧ IntKind.i64.wrap (1 + (q : Int)) = ((1 + q : Nat) : Int) ∧ q = x.toNat % 24 := by
  refine ⟨x.toNat % 24, by omega, ?_, IntWalk.i64_in _ (by omega), ?_, rfl⟩
  · rw [Int.tmod_eq_emod_of_nonneg h0]; omega
  · rw [IntWalk.i64_in _ (by omega)]; omega

theorem BoxC.later {b : Nat} {c : Cn} {V X : World} (h : BoxC b c V) (hb : Below V.heap.size V X) : BoxC b c X := (hb.block b (Array.getElem?_eq_some_iff.1 h).1).trans h
theorem BoxC.kept {b : Nat} {c : Cn} {V X : World} {row : Option Nat} (h : BoxC b c V) (hb : V.grownBy X row) (hne : some b ≠ row) : BoxC b c X := (hb.block b (Array.getElem?_eq_some_iff.1 h).1 hne).trans h
theorem BoxC.cells {b : Nat} {c : Cn} {V : World} (h : BoxC b c V) : V.cell? ⟨b, 0, none⟩ = some (.int .u64 c.got) ∧ V.cell? ⟨b, 1, none⟩ = some (.int .u64 c.loc) ∧ V.cell? ⟨b, 2, none⟩ = some (.int .u64 c.cop) ∧ V.cell? ⟨b, 3, none⟩ = some (.int .u64 c.los) ∧ V.cell? ⟨b, 4, none⟩ = some (.int .u64 c.exp) ∧ V.cell? ⟨b, 5, none⟩ = some (.int .u64 c.bad) :=
  ⟨cell_of_row _ _ 0 _ _ _ h, cell_of_row _ _ 1 _ _ _ h, cell_of_row _ _ 2 _ _ _ h, cell_of_row _ _ 3 _ _ _ h, cell_of_row _ _ 4 _ _ _ h, cell_of_row _ _ 5 _ _ _ h⟩

set_option maxRecDepth 100000 in
set_option maxHeartbeats 4000000 in
theorem tallyAlone_walk (x : Option Addr × Nat × List Mk) (y z : Int) (W : World) (hx : StructsAt W x.1 11 (x.2.2.map fun m => m.cells.toList) ∧ (∀ m ∈ x.2.2, m.ok) ∧ x.2.2.length ≤ maxLen) (hy : 0 ≤ y ∧ y ≤ 255) (hz : 0 ≤ z ∧ z ≤ 255) :
    Calls Try.prog 3 #[.slice x.1 x.2.2.length x.2.1, .int .u8 y, .int .u8 z] W fun e W' => e = .returned (.bool true) ∧ Below W.heap.size W W' := by
  obtain ⟨a, cap, l⟩ := x
  obtain ⟨hx, hok, hlen⟩ := hx
  simp only at hx hok hlen ⊢
  obtain ⟨N, hN⟩ : ∃ N, N = l.length := ⟨_, rfl⟩
  rw [← hN] at hlen ⊢
  unfold maxLen at hlen
  obtain ⟨qa, qa24, qa1, qa2, qa3, qa4⟩ := rt_facts hy.1 hy.2
  obtain ⟨qb, qb24, qb1, qb2, qb3, qb4⟩ := rt_facts hz.1 hz.2
  clear qa4 qb4
  have HN := Lib.hid hN
  have HX := Lib.hid hx
  have HOK := Lib.hid hok
  have QA := Lib.hid (And.intro qa1 (And.intro qa2 qa3))
  have QB := Lib.hid (And.intro qb1 (And.intro qb2 qb3))
  have HW := Lib.hid (works_any)
  obtain ⟨W1, hW1⟩ : ∃ W1, W1 = W.alloc (.cells (tlC tl0).toArray 61) := ⟨_, rfl⟩
  have h1 : AloneRel W N (.int .i64 0) W1 := by
    rw [hW1]; exact ⟨0, tl0, rfl, by omega, by omega, new_at W (Nat.le_refl _), (Below.refl _ _).alloc (Nat.le_refl _) _⟩
  have H1 := Lib.hid h1
  have HW1 := Lib.hid hW1
  clear hx hN hok qa1 qa2 qa3 qb1 qb2 qb3 h1 hW1 hy hz
  go_enter Try.func3, Try.ntmps3
  go_wp2_with fail
  refine (new_any W).mono ?_
  rintro e w1 ⟨rfl, rfl⟩
  rw [← HW1.out]
  go_wp2_with fail
  go_loopw [8] (fun i wr => AloneRel W N i wr) (fun i _ => 30 - (intOf i).toNat)
  case atStart => exact H1.out
  case round =>
    obtain ⟨k, L, rfl, hk, hk3, ht, hb⟩ := hrel
    have HT := Lib.hid ht
    have HB := Lib.hid hb
    clear ht hb
    by_cases hgo : k < N ∧ k < 30
    · obtain ⟨hkN, hk30⟩ := hgo
      obtain ⟨m, hm⟩ : ∃ m, m = l.getD k ⟨0, 0, false, default, default⟩ := ⟨_, rfl⟩
      have hkl : k < l.length := by rw [← HN.out]; exact hkN
      have hml : l[k]? = some m := by rw [hm, List.getD_eq_getElem?_getD, List.getElem?_eq_getElem hkl]; rfl
      have HM := Lib.hid (HOK.out m (List.mem_of_getElem? hml))
      obtain ⟨ad, ha, hc⟩ := HX.out.row (i := k) (row := m.cells.toList) (by rw [List.getElem?_map, hml]; rfl) (by simp [Mk.cells])
      subst ha
      have HC := Lib.hid (fun (V : World) (hV : Below W.heap.size W V) => hc V hV)
      obtain ⟨q, q24, q1, q2, q3, q4⟩ := rt_facts HM.out.1.1 HM.out.1.2
      have hk30' : decide ((k : Int) < 30) = true := decide_eq_true (by omega)
      have hkN' : decide ((k : Int) < N) = true := decide_eq_true (by omega)
      have hkN2 : (k : Int) < N := by omega
      clear q4
      clear hm hml hkl hc
      go_wp2_with fail
      refine wp_region_ord [(0, true), (1, true), (2, true), (3, true), (4, true), (5, true), (6, true), (7, true), (8, true), (9, true), (10, true), (11, true), (12, true), (13, false), (14, false), (15, true)] (fun V => Below W.heap.size W V) (by kernel_rfl) (by kernel_rfl) (by decide) (by kernel_rfl) (fun d _ _ _ _ h => by cases d <;> exact h) (HB.out.trans ⟨rfl, rfl, rfl, Nat.le_refl _, fun _ _ => rfl⟩) ?_
      iterate 12 ((apply wpOrd_take rfl rfl (by kernel_rfl); (intro V hV; have c0 := HC.out V hV 0 _ rfl; rw [addr_add_zero] at c0; go_simp; rfl)); (try simp only [List.setIfInBounds_toArray, List.set_cons_succ, List.set_cons_zero]))
      (apply wpOrd_take rfl rfl (by kernel_rfl) (v := .agg m.cells)); · (intro V hV; exact run_load_cs _ _ 31 _ rfl (ad.add (k * 11)) rfl m.cells.toList _ (HC.out V hV) Try.underlying31 rfl (by kernel_rfl))
      (try simp only [List.setIfInBounds_toArray, List.set_cons_succ, List.set_cons_zero])
      apply wpOrd_do rfl (by kernel_rfl)
      intro K hK
      go_simp
      refine (done_any m _ HM.out).mono ?_
      rintro e V ⟨sa, sc, rfl, hb⟩
      have HB1 := Lib.hid (show Below W.heap.size W wr.drew from HB.out.trans ⟨rfl, rfl, rfl, Nat.le_refl _, fun _ _ => rfl⟩)
      have HB2 := Lib.hid (HB1.out.trans (hb.mono HB1.out.size))
      have HT1 := Lib.hid (show TAt wr.drew W.heap.size W.heap.size L from TAt.later HT.out ⟨rfl, rfl, rfl, Nat.le_refl _, fun _ _ => rfl⟩)
      have HT2 := Lib.hid (TAt.later HT1.out hb)
      refine hK _ _ HB2.out ?_
      clear hK K hb
      apply wpOrd_do rfl (by kernel_rfl)
      intro K hK
      obtain ⟨rq, hrq⟩ : ∃ rq : Nat, rq = 1 + q := ⟨_, rfl⟩
      have hq : (1 : Int) + (q : Int) = (rq : Int) := by omega
      have hr1 : 1 ≤ rq := by omega
      have hr2 : rq ≤ 24 := by omega
      clear hrq
      go_simp
      refine (note_any _ rq _ _ _ V HT2.out (Mk.dn_ok HM.out sa sc) hr1 hr2).mono ?_
      rintro e V2 ⟨rfl, ht, hg⟩
      have HB3 := Lib.hid (HT2.out.bel HB2.out hg (Nat.le_refl _))
      have HR := Lib.hid (show AloneRel W N (.int .i64 ((k : Int) + 1)) V2 from ⟨k + 1, _, by go_num, by omega, by omega, ht, HB3.out⟩)
      refine hK _ _ HB3.out ?_
      clear hK K ht hg
      apply wpOrd_take rfl rfl (by kernel_rfl)
      · intro V _; go_simp; rfl
      (try simp only [List.setIfInBounds_toArray, List.set_cons_succ, List.set_cons_zero])
      refine wpOrd_nil ?_
      clear hq
      go_wp2_with fail
      go_roundw
      case rel => first | exact HR.out | ((repeat apply Exists.intro); exact ⟨HR.out, rfl⟩)
      case measure => simp [intOf]; omega
    · obtain ⟨ra, hra⟩ : ∃ ra : Nat, ra = 1 + qa := ⟨_, rfl⟩
      obtain ⟨rb, hrb⟩ : ∃ rb : Nat, rb = 1 + qb := ⟨_, rfl⟩
      have ha1 : 1 ≤ ra := by omega
      have ha2 : ra ≤ 24 := by omega
      have hb1 : 1 ≤ rb := by omega
      have hb2 : rb ≤ 24 := by omega
      have ea : (1 : Int) + (qa : Int) = (ra : Int) := by omega
      have eb : (1 : Int) + (qb : Int) = (rb : Int) := by omega
      obtain ⟨qa1, qa2, qa3⟩ := QA.out
      obtain ⟨qb1, qb2, qb3⟩ := QB.out
      clear qa3 qb3 hra hrb
      have hend : (k < N ∧ 30 ≤ k) ∨ N ≤ k := by omega
      have hbits : (k < N ∧ 30 ≤ k ∧ decide ((k : Int) < 30) = false) ∨ (N ≤ k ∧ decide (k < N) = false) := by
        rcases hend with ⟨h1, h2⟩ | h1
        · exact .inl ⟨h1, h2, decide_eq_false (by omega)⟩
        · exact .inr ⟨h1, decide_eq_false (by omega)⟩
      clear hend hgo
      obtain ⟨c0, hc0⟩ : ∃ c0, L.getD rb default = c0 := ⟨_, rfl⟩
      have HC0 := Lib.hid hc0
      clear hc0
      have hab : ra = rb ∨ ra ≠ rb := by omega
      have HAB := Lib.hid hab
      clear hab
      rcases hbits with ⟨hkN', hk30, hk30'⟩ | ⟨hkN, hkN'⟩
      all_goals
        go_wp2_with fail
        refine (At_is _ rb _ _ c0 HC0.out _ HT.out hb1 hb2).mono ?_
        rintro e V1 ⟨rfl, hv1⟩
        obtain ⟨X1, hX1⟩ : ∃ X1, X1 = V1.alloc (.cells #[.int .u64 c0.got, .int .u64 c0.loc, .int .u64 c0.cop, .int .u64 c0.los, .int .u64 c0.exp, .int .u64 c0.bad] 37) := ⟨_, rfl⟩
        have hx1 : Below wr.heap.size wr X1 := by rw [hX1]; exact hv1.alloc hv1.size _
        have HB1 := Lib.hid (HB.out.trans (hx1.mono HB.out.size))
        have HT1 := Lib.hid (HT.out.later hx1)
        have HG1 := Lib.hid (show BoxC V1.heap.size c0 X1 by rw [hX1]; exact heap_alloc_new _ _)
        have HN1 := Lib.hid (show V1.heap.size ≠ W.heap.size from by have := HT.out.lt; have := hv1.size; omega)
        have HX1 := Lib.hid hX1
        clear hX1 hx1 hv1
        go_wp2_with fail
        rw [← HX1.out]
        refine (example_any X1).mono ?_
        rintro e V2 ⟨sa, sc, rfl, hb⟩
        have HT2 := Lib.hid (HT1.out.later hb)
        have HB2 := Lib.hid (HB1.out.trans (hb.mono HB1.out.size))
        have HG2 := Lib.hid (BoxC.later HG1.out hb)
        clear hb
        go_wp2_with fail
        refine (note_any _ ra _ _ _ _ HT2.out (exD_ok _ _) ha1 ha2).mono ?_
        rintro e V3 ⟨rfl, ht, hg⟩
        have HB3 := Lib.hid (HT2.out.bel HB2.out hg (Nat.le_refl _))
        have HG3 := Lib.hid (BoxC.kept HG2.out hg (by simpa using HN1.out))
        have HT3 := Lib.hid ht
        clear ht hg
        go_wp2_with fail
        refine (clear_any _ ra _ _ _ HT3.out ha1 ha2).mono ?_
        rintro e V4 ⟨rfl, ht, hg⟩
        have HB4 := Lib.hid (HT3.out.bel HB3.out hg (Nat.le_refl _))
        have HG4 := Lib.hid (BoxC.kept HG3.out hg (by simpa using HN1.out))
        have hra : ((L.set ra ((L.getD ra default).add (exD sa sc).of)).set ra Cn.zero).getD ra default = Cn.zero := by
          rw [List.getD_eq_getElem?_getD, List.getElem?_set_self (by rw [List.length_set, HT.out.len]; omega)]; rfl
        obtain ⟨c1, hc1⟩ : ∃ c1, ((L.set ra ((L.getD ra default).add (exD sa sc).of)).set ra Cn.zero).getD rb default = c1 := ⟨_, rfl⟩
        have hcc : ra = rb ∨ (ra ≠ rb ∧ c1 = c0) := by
          rcases HAB.out with h | h
          · exact .inl h
          · refine .inr ⟨h, ?_⟩
            rw [← hc1, ← HC0.out, List.getD_eq_getElem?_getD, List.getElem?_set_ne h, List.getElem?_set_ne h, List.getD_eq_getElem?_getD]
        have HCC := Lib.hid hcc
        obtain ⟨L4, hL4⟩ : ∃ L4, L4 = (L.set ra ((L.getD ra default).add (exD sa sc).of)).set ra Cn.zero := ⟨_, rfl⟩
        rw [← hL4] at ht hra hc1
        have HT4 := Lib.hid ht
        have HRA := Lib.hid hra
        have HC1 := Lib.hid hc1
        clear ht hg hra hc1 hcc hL4
        go_wp2_with fail
        refine (At_is _ rb _ _ c1 HC1.out _ HT4.out hb1 hb2).mono ?_
        rintro e V5 ⟨rfl, hv⟩
        obtain ⟨X5, hX5⟩ : ∃ X5, X5 = V5.alloc (.cells #[.int .u64 c1.got, .int .u64 c1.loc, .int .u64 c1.cop, .int .u64 c1.los, .int .u64 c1.exp, .int .u64 c1.bad] 37) := ⟨_, rfl⟩
        have hx5 : Below V4.heap.size V4 X5 := by rw [hX5]; exact hv.alloc hv.size _
        have HB5 := Lib.hid (HB4.out.trans (hx5.mono HB4.out.size))
        have HT5 := Lib.hid (HT4.out.later hx5)
        have HG5 := Lib.hid (BoxC.later HG4.out hx5)
        have HH5 := Lib.hid (show BoxC V5.heap.size c1 X5 by rw [hX5]; exact heap_alloc_new _ _)
        have HX5 := Lib.hid hX5
        clear hX5 hx5 hv
        go_wp2_with fail
        rw [← HX5.out]
        refine (At_is _ ra _ _ Cn.zero HRA.out _ HT5.out ha1 ha2).mono ?_
        rintro e V6 ⟨rfl, hv⟩
        obtain ⟨X6, hX6⟩ : ∃ X6, X6 = V6.alloc (.cells #[.int .u64 0, .int .u64 0, .int .u64 0, .int .u64 0, .int .u64 0, .int .u64 0] 37) := ⟨_, rfl⟩
        have hx6 : Below X5.heap.size X5 X6 := by rw [hX6]; exact hv.alloc hv.size _
        have HB6 := Lib.hid (HB5.out.trans (hx6.mono HB5.out.size))
        obtain ⟨g0, g1, g2, g3, g4, g5⟩ := BoxC.cells (BoxC.later HG5.out hv)
        obtain ⟨j0, j1, j2, j3, j4, j5⟩ := BoxC.cells (BoxC.later HH5.out hv)
        have hs1 := (Array.getElem?_eq_some_iff.1 (BoxC.later HG5.out hv)).1
        have hs5 := (Array.getElem?_eq_some_iff.1 (BoxC.later HH5.out hv)).1
        have HX6 := Lib.hid hX6
        have HWX := Lib.hid (HW.out X6)
        simp only [Cn.zero]
        clear hX6 hx6 hv
        rcases HCC.out with h | ⟨h, h0⟩
        · subst h
          go_wp2_with fail
          rw [← HX6.out]
          refine HWX.out.mono ?_
          rintro e V7 ⟨rfl, hb⟩
          have HB7 := Lib.hid (HB6.out.trans (hb.mono HB6.out.size))
          clear hb
          go_wp2_with fail
          go_returns
          exact ⟨rfl, HB7.out⟩
        · have hne : ((ra : Int) == (rb : Int)) = false := by rw [beq_eq_false_iff_ne]; omega
          subst h0
          clear h
          go_wp2_with fail
          rw [← HX6.out]
          refine HWX.out.mono ?_
          rintro e V7 ⟨rfl, hb⟩
          have HB7 := Lib.hid (HB6.out.trans (hb.mono HB6.out.size))
          clear hb
          go_wp2_with fail
          go_returns
          exact ⟨rfl, HB7.out⟩

end Go.Proofs.Ytnfdkgmikijbgaa
