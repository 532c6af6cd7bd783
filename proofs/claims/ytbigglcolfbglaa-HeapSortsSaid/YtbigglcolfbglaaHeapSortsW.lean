/- The walk of the law HeapSorts. -/
import Derived.Test.YtbigglcolfbglaaHeapT
set_option linter.unusedSimpArgs false
set_option linter.unusedVariables false
namespace Go.Proofs.Ytbigglcolfbglaa
open Go.RowKit

/-- The list whose first k marks are struck. -/
def struck (P : List (Int × Int)) (k : Nat) : List (Int × Int) := (P.take k).map (fun x => (x.1, -1)) ++ P.drop k

theorem struck_length (P : List (Int × Int)) (k : Nat) (h : k ≤ P.length) : (struck P k).length = P.length := by
  simp [struck]; omega
theorem struck_get {P : List (Int × Int)} {k : Nat} (h : k < P.length) : (struck P k).getD k default = P.getD k default := by
  simp only [struck, List.getD_eq_getElem?_getD]
  rw [List.getElem?_append_right (by simp; omega)]
  simp [List.length_take, Nat.min_eq_left (Nat.le_of_lt h)]
theorem tS_set2 (m : Int) : ∀ (L : List (Int × Int)) (i : Nat), i < L.length → tS (L.set i ((L.getD i default).1, m)) = (tS L).set (i * 2 + 1) (.int .i64 m)
  | [], i, h => by simp at h
  | y :: r, 0, _ => by simp [tS]
  | y :: r, i + 1, h => by
    have := tS_set2 m r i (by simpa using h)
    simp only [tS, List.set_cons_succ, List.flatMap_cons, List.getD_cons_succ, Nat.add_mul, List.cons_append, List.nil_append] at this ⊢
    rw [this]
theorem struck_succ {P : List (Int × Int)} {k : Nat} (h : k < P.length) : struck P (k + 1) = (struck P k).set k (((struck P k).getD k default).1, -1) := by
  rw [struck_get h, struck, struck, take_snoc h, drop_cons h, List.map_append, List.append_assoc]
  have hl : ((P.take k).map (fun x => (x.1, (-1 : Int)))).length = k := by simp [List.length_take]; omega
  rw [List.set_append_right _ _ (by omega), hl, Nat.sub_self]
  rfl

def SortsRel (w2 w3 : World) (m : Nat) (a3 : Option Addr) (c3 : Nat) (P : List (Int × Int)) (i : Value) (wr : World) : Prop :=
  ∃ k : Nat, i = .int .i64 k ∧ k ≤ m ∧ TRow wr w2.heap.size (.slice a3 m c3) (struck P k) ∧ w3.grownBy wr (Value.slice a3 m c3).ownBlock

theorem sorts_step {w2 w3 wr : World} {m k g3 c3 : Nat} {P : List (Int × Int)} (hk : k < m) (hP : P.length = m) (hro : TRow wr w2.heap.size (.slice (some ⟨g3, 0, none⟩) m c3) (struck P k)) (hg : w3.grownBy wr (Value.slice (some ⟨g3, 0, none⟩) m c3).ownBlock) :
    SortsRel w2 w3 m (some ⟨g3, 0, none⟩) c3 P (.int .i64 ((k : Int) + 1)) (wr.setCell ⟨g3, k * 2 + 1, none⟩ (.int .i64 (-1))).drew := by
  have hsl : (struck P k).length = m := by rw [struck_length P k (by omega), hP]
  have hr : Row wr w2.heap.size 26 2 (.slice (some ⟨g3, 0, none⟩) m c3) m (tS (struck P k)) := by have h := hro; unfold TRow at h; rw [hsl] at h; exact h
  obtain ⟨h1, h2⟩ := Row.stored hr (k * 2 + 1) (.int .i64 (-1))
  refine ⟨k + 1, by go_num, by omega, ?_, hg.os ▸ rfl, hg.tape ▸ rfl, hg.output ▸ rfl, by show w3.heap.size ≤ (wr.setCell _ _).heap.size; rw [World.size_setCell]; exact hg.size, fun q hq hne => ?_⟩
  · show Row _ _ _ _ _ _ _
    rw [struck_length P (k + 1) (by omega), hP, struck_succ (by omega), tS_set2 _ _ _ (by omega)]
    exact h1.drew
  · show (wr.setCell _ _).heap[q]? = _
    rw [heap_setCell_other _ _ _ _ (by intro e; exact hne (by rw [e]; rfl)), hg.block q hq hne]

set_option maxRecDepth 100000 in
set_option maxHeartbeats 4000000 in
theorem heapSorts_walk (x : Option Addr × Nat × List (Int × Int)) (W : World) (hx : ThsAt W x.1 x.2.2 ∧ x.2.2.length ≤ x.2.1 ∧ x.2.1 ≤ maxLen ∧ (x.1 = none → x.2.1 = 0)) :
    Calls Try.prog 4 #[.slice x.1 x.2.2.length x.2.1] W fun e W' => e = .returned (.bool true) ∧ Below W.heap.size W W' := by
  obtain ⟨a, cap, l⟩ := x
  obtain ⟨hx, hlc, hcm, hnil⟩ := hx
  simp only at hx hlc hcm hnil ⊢
  cases a with
  | none =>
    have hc0 : cap = 0 := hnil rfl
    subst hc0
    have hl0 : l = [] := List.eq_nil_of_length_eq_zero (by omega)
    subst hl0
    go_enter Try.func4, Try.ntmps4
    go_wp2_with fail
    refine (rsort_any W 0 _ [] (Row.nil_ _ _ _ _) (by simp)).mono ?_
    rintro e w1 hp
    obtain ⟨v1, rfl, hr1, hb1⟩ := hp
    obtain ⟨a1, c1, rfl, _, _⟩ := Row.shape hr1
    rw [show (sel tkey ([] : List (Int × Int)).length []).length = 0 from rfl]
    have HB1 := Lib.hid hb1
    clear hr1 hb1
    go_wp2_with fail
    refine (tsort_any (tOrder 0) [] _ w1 (Nat.zero_le _) (Row.nil_ w1 0 _ _) trivial (fun _ _ => trivial) (by simp)).mono ?_
    rintro e w2 hp
    obtain ⟨v2, rfl, hr2, hb2⟩ := hp
    obtain ⟨a2, c2, rfl, _, _⟩ := Row.shape hr2
    have HB2 := Lib.hid (HB1.out.trans (hb2.mono HB1.out.size))
    rw [show (tSorted tlt []).length = 0 from by rw [tSorted, pops_length]; rfl]
    clear hr2 hb2
    go_wp2_with fail
    go_loopw [6] (fun i wr => i = .int .i64 0 ∧ Below W.heap.size W wr) (fun _ _ => 0)
    case atStart => exact ⟨rfl, HB2.out⟩
    case round =>
      obtain ⟨rfl, hb⟩ := hrel
      have HB := Lib.hid hb
      clear hb
      go_wp2_with fail
      obtain ⟨wo, rfl⟩ : ∃ wo : World, wo = wr := ⟨_, rfl⟩
      go_loopw [7] (fun i wr => i = .int .i64 0 ∧ Below W.heap.size W wr) (fun _ _ => 0)
      case atStart => exact ⟨rfl, HB.out⟩
      case round =>
        obtain ⟨rfl, hb⟩ := hrel
        have HB := Lib.hid hb
        clear hb
        go_wp2_with fail
        refine (works_any _).mono ?_
        rintro e w5 ⟨rfl, hb5⟩
        go_wp2_with fail
        go_ret
        exact ⟨rfl, HB.out.trans (hb5.mono HB.out.size)⟩
  | some ad =>
    obtain ⟨N, hN⟩ : ∃ N, N = l.length := ⟨_, rfl⟩
    obtain ⟨m, hm⟩ : ∃ m, m = min l.length 200 := ⟨_, rfl⟩
    have hm1 : m ≤ N := by omega
    have hm2 : m ≤ 200 := by omega
    have hmi : (if (200 : Int) < (N : Int) then (200 : Int) else (N : Int)) = (m : Int) := by split <;> omega
    rw [← hN] at hlc ⊢
    have hmc : m ≤ cap := by omega
    unfold maxLen at hcm
    obtain ⟨Q, hQ⟩ : ∃ Q, Q = l.take m := ⟨_, rfl⟩
    have hQl : Q.length = m := by rw [hQ, List.length_take]; omega
    have hcQ : ∀ j u, (tS Q)[j]? = some u → W.cell? (ad.add j) = some u := fun j u hu => by
      refine ths_cells hx j u ?_
      rw [hQ, ← tS_take] at hu
      have hj : j < m * 2 := by have := (List.getElem?_eq_some_iff.1 hu).1; rw [List.length_take, tS_length] at this; omega
      rw [List.getElem?_take, if_pos hj] at hu
      exact hu
    have HCQ := Lib.hid hcQ
    have HQL := Lib.hid hQl
    have hlQ : (tS Q).length = m * 2 := by rw [tS_length, hQl]
    have HLQ := Lib.hid hlQ
    obtain ⟨i0, hi, hz0, hz1, hz2⟩ := info_parts infoTh
    clear hN hm hQ hQl hcQ hx hlQ hnil
    go_enter Try.func4, Try.ntmps4
    go_wp2_with (at_builtin; refine wpList_append_row _ rfl (.tmp 8) (.tmp 13) 28 rfl W.heap.size 26 i0 (.agg #[.int .i64 0, .int .i64 0]) 2 16 Try.underlying28 hi hz0 hz1 hz2 rfl (by decide) (.slice none 0 0) 0 [] rfl (Row.nil_ _ _ _ _) ad m cap (tS Q) rfl HLQ.out HCQ.out tS_one ?c3 ?c4 ?c5 ?_)
    case c3 => unfold maxLen; omega
    case c4 => omega
    case c5 => exact Nat.le_refl _
    intro v1 w1 hrow1 hg1 _ _
    have hin1 : TRow w1 W.heap.size v1 Q := by unfold TRow; rw [HQL.out]; exact hrow1
    have hb1 : Below W.heap.size W w1 := (Below.refl _ _).grown hg1 (Nat.le_refl _) fun q hq => by simp [Value.ownBlock] at hq
    obtain ⟨a1, c1, hv1, _, _⟩ := Row.shape hrow1
    subst hv1
    clear hrow1 hg1 hi hz0 hz1 hz2
    have HC := Lib.hid (rsort_any w1 W.heap.size _ Q hin1 (by rw [HQL.out]; omega))
    have HB1 := Lib.hid hb1
    have HI1 := Lib.hid hin1
    clear hb1 hin1
    go_wp2_with fail
    refine HC.out.mono ?_
    rintro e w2 hp
    obtain ⟨v2, rfl, hr2, hb2⟩ := hp
    rw [HQL.out] at hr2
    have hP : tSorted tlt Q = sel tkey m Q := by rw [tSorted_sel, HQL.out]
    rw [← hP] at hr2
    obtain ⟨P, hPe⟩ : ∃ P, P = tSorted tlt Q := ⟨_, rfl⟩
    have hPl : P.length = m := by rw [hPe, hP, sel_length]
    rw [← hPe] at hr2
    have hb2' := HB1.out.trans (hb2.mono HB1.out.size)
    have HC3 := Lib.hid (tsort_any (tOrder 0) Q _ w2 (Nat.zero_le _) (Row.later HI1.out hb2) trivial (fun _ _ => trivial) (by rw [HQL.out]; omega))
    rw [← hPe] at HC3
    have HPL := Lib.hid hPl
    have hsh := Row.shape hr2
    rw [hPl] at hsh
    obtain ⟨a2, c2, hv2, _, _⟩ := hsh
    subst hv2
    have HR2 := Lib.hid hr2
    have HB2 := Lib.hid hb2'
    have HBB := Lib.hid hb2
    clear hr2 hb2 hb2' hPe hPl hP
    go_wp2_with fail
    refine HC3.out.mono ?_
    rintro e w3 hp
    obtain ⟨v3, rfl, hr3, hb3⟩ := hp
    have hsh := Row.shape hr3
    rw [HPL.out] at hsh
    obtain ⟨a3, c3, hv3, _, _⟩ := hsh
    subst hv3
    have hrel0 := Lib.hid (show SortsRel w2 w3 m a3 c3 P (.int .i64 0) w3 from ⟨0, rfl, by omega, by rw [struck, List.take_zero, List.drop_zero]; exact hr3, rfl, rfl, rfl, Nat.le_refl _, fun _ _ _ => rfl⟩)
    have HI3 := Lib.hid (Row.later (Row.later HI1.out HBB.out) hb3)
    have HR3 := Lib.hid (Row.later HR2.out hb3)
    have HB3 := Lib.hid (HB2.out.trans (hb3.mono HB2.out.size))
    have hin2 : ∀ q, (Value.slice a1 m c1).ownBlock = some q → q < w2.heap.size := fun q hq => Nat.lt_of_lt_of_le (Row.lt HI1.out q hq).2 HBB.out.size
    have hwa2 : ∀ q, (Value.slice a2 m c2).ownBlock = some q → q < w2.heap.size := fun q hq => (Row.lt HR2.out q hq).2
    have HIQ := Lib.hid hin2
    have HWQ := Lib.hid hwa2
    have hWs := HB2.out.size
    clear hr3 hb3 hin2 hwa2
    go_wp2_with fail
    go_loopw [6] (fun i wr => SortsRel w2 w3 m a3 c3 P i wr) (fun i _ => m - (intOf i).toNat)
    case atStart => exact hrel0.out
    case round =>
      obtain ⟨k, rfl, hk, hro, hg⟩ := hrel
      have hown : ∀ q, (Value.slice a3 m c3).ownBlock = some q → w2.heap.size ≤ q := fun q hq => (Row.lt hro q hq).1
      have hkeep : ∀ {b : Nat} {v : Value} {xs : List (Int × Int)}, TRow w3 b v xs → (∀ q, v.ownBlock = some q → q < w2.heap.size) → TRow wr b v xs := fun h hv => Row.kept h hg (by
        rcases hq : (Value.ownBlock _) with _ | q
        · left; rfl
        · right; intro e; have h1 := hv q hq; have h2 := hown q e.symm; omega)
      have hin := hkeep HI3.out HIQ.out
      have hwt := hkeep HR3.out HWQ.out
      have hbr : Below W.heap.size W wr := HB3.out.grown hg HB3.out.size fun q hq => Nat.le_trans hWs (hown q hq)
      by_cases hkm : k < m
      · have hPk : k < P.length := by rw [HPL.out]; exact hkm
        have hQk : k < Q.length := by rw [HQL.out]; exact hkm
        have hsl : (struck P k).length = P.length := struck_length P k (by omega)
        obtain ⟨p, hp⟩ : ∃ p, p = P.getD k default := ⟨_, rfl⟩
        obtain ⟨q, hq⟩ : ∃ q, q = Q.getD k default := ⟨_, rfl⟩
        obtain ⟨g3, c3', he3, _, _, _, _, hc3, hf3⟩ := hro.form (by omega)
        simp only [Value.slice.injEq] at he3
        obtain ⟨rfl, _, rfl⟩ := he3
        obtain ⟨g2, c2', he2, _, _, _, _, hc2, _⟩ := hwt.form (by omega)
        simp only [Value.slice.injEq] at he2
        obtain ⟨rfl, _, rfl⟩ := he2
        obtain ⟨g1, c1', he1, _, _, _, _, hc1, _⟩ := hin.form (by omega)
        simp only [Value.slice.injEq] at he1
        obtain ⟨rfl, _, rfl⟩ := he1
        have to := tS_get (l := struck P k) (i := k) (by omega)
        rw [struck_get hPk, ← hp] at to
        have tw := tS_get (l := P) hPk
        rw [← hp] at tw
        have ti := tS_get (l := Q) hQk
        rw [← hq] at ti
        have o0 := (hc3 _ (by omega)).trans to.1
        have o1 := (hc3 _ (by omega)).trans to.2
        have n0 := (hc2 _ (by omega)).trans tw.1
        have n1 := (hc2 _ (by omega)).trans tw.2
        have i0 := (hc1 _ (by omega)).trans ti.1
        have i1 := (hc1 _ (by omega)).trans ti.2
        have e0 := HCQ.out _ _ ti.1
        have e1 := HCQ.out _ _ ti.2
        have a0 : wr.cell? (ad.add (k * 2)) = some (.int .i64 q.1) := (hbr.cell (block_lt_of_cell e0)).trans e0
        have a1 : wr.cell? ⟨(ad.add (k * 2)).block, (ad.add (k * 2)).off + 1, none⟩ = some (.int .i64 q.2) := by rw [← add_field ad _ 1 (by omega)]; exact (hbr.cell (block_lt_of_cell e1)).trans e1
        have z1 := hf3 (k * 2 + 1) (by omega)
        have HST := Lib.hid (sorts_step hkm HPL.out hro hg)
        have hkNN : k < N := by omega
        have hPs : P.length = m := HPL.out
        clear hc1 hc2 hc3 hf3 to tw ti e0 e1 hp hq hin hwt hro hg hbr hown hkeep hsl hPk hQk hPs
        go_wp2_with fail
        refine wp_region_ord [(0, true), (1, true), (2, true), (3, true), (4, true), (5, true), (6, true), (7, true), (8, true), (9, true), (10, true), (11, true), (12, true), (13, true), (14, true), (15, true), (16, true), (17, true), (18, true), (19, true)] (fun V => V = wr.drew) (by kernel_rfl) (by kernel_rfl) (by decide) (by kernel_rfl) (fun d _ _ _ _ h => by cases d <;> exact h) rfl ?_
        iterate 20 ((apply wpOrd_take rfl rfl (by kernel_rfl); (intro V hV; subst hV; go_simp; rfl)); (try simp only [List.setIfInBounds_toArray, List.set_cons_succ, List.set_cons_zero]))
        refine wpOrd_nil ?_
        go_wp2_with fail
        go_roundw
        case rel => first | exact HST.out | ((repeat apply Exists.intro); exact ⟨HST.out, rfl⟩)
        case measure => simp [intOf]; omega
      · have hkm' : k = m := by omega
        subst hkm'
        have HIN := Lib.hid hin
        have HBR := Lib.hid hbr
        clear hown hkeep hin hwt hro hg hbr hk
        go_wp2_with fail
        obtain ⟨wo, rfl⟩ : ∃ wo : World, wo = wr := ⟨_, rfl⟩
        go_loopw [7] (fun i wr => ∃ j : Nat, i = .int .i64 j ∧ j ≤ k ∧ Below wo.heap.size wo wr) (fun i _ => k - (intOf i).toNat)
        case atStart => exact ⟨0, rfl, by omega, Below.refl _ _⟩
        case round =>
          obtain ⟨j, rfl, hj, hbj⟩ := hrel
          have HBJ := Lib.hid hbj
          by_cases hjk : j < k
          · have hjNN : j < N := by omega
            have hQj : j < Q.length := by rw [HQL.out]; exact hjk
            obtain ⟨q, hq⟩ : ∃ q, q = Q.getD j default := ⟨_, rfl⟩
            obtain ⟨g1, c1', he1, _, _, _, _, hc1, _⟩ := (Row.later HIN.out hbj).form (by omega)
            simp only [Value.slice.injEq] at he1
            obtain ⟨rfl, _, rfl⟩ := he1
            have ti := tS_get (l := Q) hQj
            rw [← hq] at ti
            have i0 := (hc1 _ (by omega)).trans ti.1
            have i1 := (hc1 _ (by omega)).trans ti.2
            have hbr := HBR.out.trans (hbj.mono HBR.out.size)
            have e0 := HCQ.out _ _ ti.1
            have e1 := HCQ.out _ _ ti.2
            have a0 : wr.cell? (ad.add (j * 2)) = some (.int .i64 q.1) := (hbr.cell (block_lt_of_cell e0)).trans e0
            have a1 : wr.cell? ⟨(ad.add (j * 2)).block, (ad.add (j * 2)).off + 1, none⟩ = some (.int .i64 q.2) := by rw [← add_field ad _ 1 (by omega)]; exact (hbr.cell (block_lt_of_cell e1)).trans e1
            clear hc1 ti e0 e1 hq hbr hbj hQj
            go_wp2_with fail
            refine wp_region_ord [(0, true), (1, true), (2, true), (3, true), (4, true), (5, true), (6, true), (7, true), (8, true)] (fun V => V = wr.drew) (by kernel_rfl) (by kernel_rfl) (by decide) (by kernel_rfl) (fun d _ _ _ _ h => by cases d <;> exact h) rfl ?_
            iterate 9 ((apply wpOrd_take rfl rfl (by kernel_rfl); (intro V hV; subst hV; go_simp; rfl)); (try simp only [List.setIfInBounds_toArray, List.set_cons_succ, List.set_cons_zero]))
            refine wpOrd_nil ?_
            go_wp2_with fail
            go_roundw
            case rel => exact ⟨j + 1, by go_num, by omega, HBJ.out.drew⟩
            case measure => simp [intOf]; omega
          · have hjk' : j = k := by omega
            subst hjk'
            have HB := Lib.hid (HBR.out.trans (hbj.mono HBR.out.size))
            clear hbj
            go_wp2_with fail
            refine (works_any _).mono ?_
            rintro e w5 ⟨rfl, hb5⟩
            go_wp2_with fail
            go_ret
            exact ⟨rfl, HB.out.trans (hb5.mono HB.out.size)⟩

end Go.Proofs.Ytbigglcolfbglaa
