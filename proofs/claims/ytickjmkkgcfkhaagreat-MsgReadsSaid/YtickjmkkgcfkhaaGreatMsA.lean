/- Contracts of the message: the rows of the kinds. -/
import Derived.Test.YtickjmkkgcfkhaaGreatRows
import Derived.Test.YtickjmkkgcfkhaaGreatAgg
import Derived.Test.YtickjmkkgcfkhaaGreatRegG
import Derived.Test.YtickjmkkgcfkhaaGreatLeaves
import Derived.Handy
import Derived.Outline
import Derived.IntWalk
import Derived.Laws.EntriesVeiled
import Derived.Lib.Hide
import Derived.Laws.OwnMore
set_option linter.unusedSimpArgs false
set_option linter.unusedVariables false
set_option maxRecDepth 100000
set_option maxRecDepth 100000
namespace Go.Proofs.YtickjmkkgcfkhaaGreat
open Go.RowKit Go.ChangeShapes Go.WideShapes

def toldC : List Value := [.int .i64 1, .func (.func 42) #[] #[], .func (.func 44) #[] #[], .func (.func 46) #[] #[],
  .int .i64 2, .func (.func 48) #[] #[], .func (.func 50) #[] #[], .func (.func 51) #[] #[],
  .int .i64 4, .func (.func 53) #[] #[], .func (.func 55) #[] #[], .func (.func 57) #[] #[]]
def sentC : List Value := [.int .i64 24, .func (.func 59) #[] #[], .func (.func 62) #[] #[], .func (.func 64) #[] #[],
  .int .i64 40, .func (.func 66) #[] #[], .func (.func 67) #[] #[], .func (.func 68) #[] #[]]
/-- The row of a kind; the zero one where there is none. -/
def rowC (k : Int) : List Value :=
  if k = 1 then toldC.take 4 else if k = 2 then (toldC.drop 4).take 4 else if k = 3 then toldC.drop 8 else if k = 4 then sentC.take 4 else if k = 5 then sentC.drop 4 else [.int .i64 0, .nilFunc, .nilFunc, .nilFunc]

theorem told_any (W : World) : Calls Tryz.prog 23 #[] W fun e W' => e = .returned (.slice (some ⟨W.heap.size, 0, none⟩) 3 3) ∧ W' = W.alloc (.cells toldC.toArray 54) := by
  go_enter Tryz.func23, Tryz.ntmps23
  go_wp2_with fail
  go_returns
  exact ⟨rfl, rfl⟩
theorem sent_any (W : World) : Calls Tryz.prog 24 #[] W fun e W' => e = .returned (.slice (some ⟨W.heap.size, 0, none⟩) 2 2) ∧ W' = W.alloc (.cells sentC.toArray 54) := by
  go_enter Tryz.func24, Tryz.ntmps24
  go_wp2_with fail
  go_returns
  exact ⟨rfl, rfl⟩
theorem infoRow : (Tryz.prog.info? 54).map (fun i => (i.zero, i.size, i.bytes)) = some (some (.agg #[.int .i64 0, .nilFunc, .nilFunc, .nilFunc]), 4, 32) := by kernel_rfl

def OfPost (k : Int) (W : World) (e : Ending) (W' : World) : Prop := e = .returned (.tuple #[.agg (rowC k).toArray, .bool (decide (1 ≤ k) && decide (k ≤ 5))]) ∧ Below W.heap.size W W'
set_option maxHeartbeats 1600000 in
theorem of_any (k : Int) (W : World) : Calls Tryz.prog 11 #[.int .i64 k] W (OfPost k W) := by
  have HT := Lib.hid told_any
  have HS := Lib.hid sent_any
  have HP := Lib.hid (show ∀ e W', OfPost k W e W' ↔ _ from fun e W' => Iff.rfl)
  obtain ⟨i0, hi, hz0, hz1, hz2⟩ : ∃ i, Tryz.prog.info? 54 = some i ∧ i.zero = some (.agg #[.int .i64 0, .nilFunc, .nilFunc, .nilFunc]) ∧ i.size = 4 ∧ i.bytes = 32 := by
    have h := infoRow
    cases hi : Tryz.prog.info? 54 with
    | none => rw [hi] at h; cases h
    | some i => rw [hi] at h; simp only [Option.map_some, Option.some.injEq, Prod.mk.injEq] at h; exact ⟨i, rfl, h.1, h.2.1, h.2.2⟩
  go_enter Tryz.func11, Tryz.ntmps11
  go_wp2_with fail
  obtain ⟨Wa, hWa⟩ : ∃ V, V = W.alloc (.cells #[.int .i64 0, .nilFunc, .nilFunc, .nilFunc] 54) := ⟨_, rfl⟩
  have HZ := Lib.hid (show Wa.heap[W.heap.size]? = some (.cells #[.int .i64 0, .nilFunc, .nilFunc, .nilFunc] 54 (0, 0)) by rw [hWa]; exact heap_alloc_new _ _)
  have HBA := Lib.hid (show Below W.heap.size W Wa by rw [hWa]; exact (Below.refl _ _).alloc (Nat.le_refl _) _)
  have HSA := Lib.hid (show Wa.heap.size = W.heap.size + 1 by rw [hWa, World.size_alloc])
  rw [← hWa]
  clear hWa
  refine (HT.out _).mono ?_
  rintro x Vb ⟨rfl, hb⟩
  obtain ⟨p1, hp1⟩ : ∃ p, p = Wa.heap.size := ⟨_, rfl⟩
  have HR := Lib.hid (show Row Vb (W.heap.size + 1) 54 4 (.slice (some ⟨p1, 0, none⟩) 3 3) 3 toldC by
    rw [hb, hp1]
    exact Row.of_own (World.ownsRow_lit Wa toldC.toArray 3 (by rw [HSA.out]; exact Nat.le_refl _) (by simp [maxLen]) rfl))
  have HBB := Lib.hid (show Below Wa.heap.size Wa Vb by rw [hb]; exact (Below.refl _ _).alloc (Nat.le_refl _) _)
  rw [← hp1]
  clear hb hp1
  go_wp2_with fail
  refine (HS.out _).mono ?_
  rintro x Vc ⟨rfl, hc⟩
  obtain ⟨p2, hp2⟩ : ∃ p, p = Vb.heap.size := ⟨_, rfl⟩
  have HR2 := Lib.hid (show Row Vc (W.heap.size + 1) 54 4 (.slice (some ⟨p1, 0, none⟩) 3 3) 3 toldC by rw [hc]; exact HR.out.alloc _)
  have HN := Lib.hid (show ∀ j u, sentC[j]? = some u → Vc.cell? ((⟨p2, 0, none⟩ : Addr).add j) = some u by
    rw [hc, hp2]
    exact (Row.of_own (World.ownsRow_lit (base := 0) (e := 54) (size := 4) Vb sentC.toArray 2 (Nat.zero_le _) (by simp [maxLen]) rfl)).cells rfl)
  have HBC := Lib.hid (show Below Vb.heap.size Vb Vc by rw [hc]; exact (Below.refl _ _).alloc (Nat.le_refl _) _)
  have HSZ := Lib.hid (show W.heap.size + 1 ≤ Vc.heap.size by have := HBC.out.size; have := HBB.out.size; have := HSA.out; omega)
  rw [← hp2]
  clear hc hp2
  go_wp2_with (at_builtin; refine wpList_append_row _ rfl (.tmp 5) (.tmp 6) 72 rfl (W.heap.size + 1) 54 i0 (.agg #[.int .i64 0, .nilFunc, .nilFunc, .nilFunc]) 4 32 Tryz.underlying72 hi hz0 hz1 hz2 rfl (by decide) _ 3 toldC rfl HR2.out ⟨p2, 0, none⟩ 2 2 sentC rfl rfl HN.out ?h1 ?h2 ?h3 HSZ.out ?_)
  case h1 => intro u hu; simp only [sentC, List.mem_cons, List.not_mem_nil, or_false] at hu; rcases hu with rfl | rfl | rfl | rfl | rfl | rfl | rfl | rfl <;> rfl
  case h2 => unfold maxLen; omega
  case h3 => omega
  intro v' V hrow hg _ _
  obtain ⟨g, cap, rfl, hge, hglt, hkc, hcm, hcells, hfr⟩ := Row.form hrow (by omega)
  have HBV := Lib.hid (show Below W.heap.size W V from (HBA.out.trans ((HBB.out.trans (HBC.out.mono HBB.out.size)).mono HBA.out.size)).grown hg (by have := HSZ.out; omega) (by
    intro j hj
    have := (HR2.out.lt j hj).1
    omega))
  have hzb : V.heap[W.heap.size]? = some (.cells #[.int .i64 0, .nilFunc, .nilFunc, .nilFunc] 54 (0, 0)) := by
    have h1 := HSA.out
    have h2 := HBB.out.size
    have h3 := HBC.out.size
    refine (hg.block _ (by omega) ?_).trans ((HBC.out.block _ (by omega)).trans ((HBB.out.block _ (by omega)).trans HZ.out))
    intro he
    have := (HR2.out.lt _ he.symm).1
    omega
  have x0 : V.cell? ⟨W.heap.size, 0, none⟩ = some (.int .i64 0) := cell_of_row _ _ 0 _ _ _ hzb
  have x1 : V.cell? ⟨W.heap.size, 1, none⟩ = some .nilFunc := cell_of_row _ _ 1 _ _ _ hzb
  have x2 : V.cell? ⟨W.heap.size, 2, none⟩ = some .nilFunc := cell_of_row _ _ 2 _ _ _ hzb
  have x3 : V.cell? ⟨W.heap.size, 3, none⟩ = some .nilFunc := cell_of_row _ _ 3 _ _ _ hzb
  have f0 : V.frozen? ⟨W.heap.size, 0, none⟩ = false := frozen_of_row _ _ _ _ _ hzb
  have f1 : V.frozen? ⟨W.heap.size, 1, none⟩ = false := frozen_of_row _ _ _ _ _ hzb
  have f2 : V.frozen? ⟨W.heap.size, 2, none⟩ = false := frozen_of_row _ _ _ _ _ hzb
  have f3 : V.frozen? ⟨W.heap.size, 3, none⟩ = false := frozen_of_row _ _ _ _ _ hzb
  have hcap5 : (5 : Int) ≤ cap := by omega
  clear hrow hg hzb hfr hge hi hz0 hz1 hz2
  by_cases hk1 : k = 1
  · subst hk1
    have d1 : decide ((1 : Int) ≤ 1) = true := by decide
    have hlt1 : decide ((1 : Int) < 1) = false := by decide
    have hgt1 : decide ((5 : Int) < 1) = false := by decide
    have c0 := hcells 0 (by decide)
    have c1 := hcells 1 (by decide)
    have c2 := hcells 2 (by decide)
    have c3 := hcells 3 (by decide)
    simp only [toldC, sentC, List.cons_append, List.nil_append, List.getElem?_cons_succ, List.getElem?_cons_zero] at c0 c1 c2 c3
    clear hcells
    go_wp2_with fail
    refine bodyPost_ret (v := .tuple #[.agg (rowC 1).toArray, .bool (decide ((1 : Int) ≤ 1) && decide ((1 : Int) ≤ 5))]) ?_ rfl ⟨rfl, ?_⟩
    · simp only [results, Tryz.results11]
      go_simp
      rfl
    · repeat (with_reducible refine Below.setCell ?_ (by simp only; omega) _)
      exact HBV.out
  by_cases hk2 : k = 2
  · subst hk2
    have d1 : decide ((1 : Int) ≤ 2) = true := by decide
    have hlt1 : decide ((2 : Int) < 1) = false := by decide
    have hgt1 : decide ((5 : Int) < 2) = false := by decide
    have c0 := hcells 4 (by decide)
    have c1 := hcells 5 (by decide)
    have c2 := hcells 6 (by decide)
    have c3 := hcells 7 (by decide)
    simp only [toldC, sentC, List.cons_append, List.nil_append, List.getElem?_cons_succ, List.getElem?_cons_zero] at c0 c1 c2 c3
    clear hcells
    go_wp2_with fail
    refine bodyPost_ret (v := .tuple #[.agg (rowC 2).toArray, .bool (decide ((1 : Int) ≤ 2) && decide ((2 : Int) ≤ 5))]) ?_ rfl ⟨rfl, ?_⟩
    · simp only [results, Tryz.results11]
      go_simp
      rfl
    · repeat (with_reducible refine Below.setCell ?_ (by simp only; omega) _)
      exact HBV.out
  by_cases hk3 : k = 3
  · subst hk3
    have d1 : decide ((1 : Int) ≤ 3) = true := by decide
    have hlt1 : decide ((3 : Int) < 1) = false := by decide
    have hgt1 : decide ((5 : Int) < 3) = false := by decide
    have c0 := hcells 8 (by decide)
    have c1 := hcells 9 (by decide)
    have c2 := hcells 10 (by decide)
    have c3 := hcells 11 (by decide)
    simp only [toldC, sentC, List.cons_append, List.nil_append, List.getElem?_cons_succ, List.getElem?_cons_zero] at c0 c1 c2 c3
    clear hcells
    go_wp2_with fail
    refine bodyPost_ret (v := .tuple #[.agg (rowC 3).toArray, .bool (decide ((1 : Int) ≤ 3) && decide ((3 : Int) ≤ 5))]) ?_ rfl ⟨rfl, ?_⟩
    · simp only [results, Tryz.results11]
      go_simp
      rfl
    · repeat (with_reducible refine Below.setCell ?_ (by simp only; omega) _)
      exact HBV.out
  by_cases hk4 : k = 4
  · subst hk4
    have d1 : decide ((1 : Int) ≤ 4) = true := by decide
    have hlt1 : decide ((4 : Int) < 1) = false := by decide
    have hgt1 : decide ((5 : Int) < 4) = false := by decide
    have c0 := hcells 12 (by decide)
    have c1 := hcells 13 (by decide)
    have c2 := hcells 14 (by decide)
    have c3 := hcells 15 (by decide)
    simp only [toldC, sentC, List.cons_append, List.nil_append, List.getElem?_cons_succ, List.getElem?_cons_zero] at c0 c1 c2 c3
    clear hcells
    go_wp2_with fail
    refine bodyPost_ret (v := .tuple #[.agg (rowC 4).toArray, .bool (decide ((1 : Int) ≤ 4) && decide ((4 : Int) ≤ 5))]) ?_ rfl ⟨rfl, ?_⟩
    · simp only [results, Tryz.results11]
      go_simp
      rfl
    · repeat (with_reducible refine Below.setCell ?_ (by simp only; omega) _)
      exact HBV.out
  by_cases hk5 : k = 5
  · subst hk5
    have d1 : decide ((1 : Int) ≤ 5) = true := by decide
    have hlt1 : decide ((5 : Int) < 1) = false := by decide
    have hgt1 : decide ((5 : Int) < 5) = false := by decide
    have c0 := hcells 16 (by decide)
    have c1 := hcells 17 (by decide)
    have c2 := hcells 18 (by decide)
    have c3 := hcells 19 (by decide)
    simp only [toldC, sentC, List.cons_append, List.nil_append, List.getElem?_cons_succ, List.getElem?_cons_zero] at c0 c1 c2 c3
    clear hcells
    go_wp2_with fail
    refine bodyPost_ret (v := .tuple #[.agg (rowC 5).toArray, .bool (decide ((1 : Int) ≤ 5) && decide ((5 : Int) ≤ 5))]) ?_ rfl ⟨rfl, ?_⟩
    · simp only [results, Tryz.results11]
      go_simp
      rfl
    · repeat (with_reducible refine Below.setCell ?_ (by simp only; omega) _)
      exact HBV.out
  have hd : (decide (1 ≤ k) && decide (k ≤ 5)) = false := by rw [Bool.and_eq_false_iff, decide_eq_false_iff_not, decide_eq_false_iff_not]; omega
  have hrc : rowC k = [.int .i64 0, .nilFunc, .nilFunc, .nilFunc] := by unfold rowC; rw [if_neg (by omega), if_neg (by omega), if_neg (by omega), if_neg (by omega), if_neg (by omega)]
  have HD := Lib.hid hd
  have HRC := Lib.hid hrc
  clear hcells hd hrc
  by_cases hk6 : k < 1
  · have hlt1 : decide (k < 1) = true := decide_eq_true hk6
    clear hk1 hk2 hk3 hk4 hk5
    go_wp2_with fail
    refine bodyPost_ret (v := .tuple #[.agg #[.int .i64 0, .nilFunc, .nilFunc, .nilFunc], .bool false]) ?_ rfl ⟨?_, ?_⟩
    · simp only [results, Tryz.results11]
      go_simp
    · rw [HD.out, HRC.out]
    · repeat (with_reducible refine Below.setCell ?_ (by simp only; omega) _)
      exact HBV.out
  · have hlt1 : decide (k < 1) = false := decide_eq_false hk6
    have hgt1 : decide (5 < k) = true := decide_eq_true (by omega)
    clear hk1 hk2 hk3 hk4 hk5 hk6
    go_wp2_with fail
    refine bodyPost_ret (v := .tuple #[.agg #[.int .i64 0, .nilFunc, .nilFunc, .nilFunc], .bool false]) ?_ rfl ⟨?_, ?_⟩
    · simp only [results, Tryz.results11]
      go_simp
    · rw [HD.out, HRC.out]
    · repeat (with_reducible refine Below.setCell ?_ (by simp only; omega) _)
      exact HBV.out

end Go.Proofs.YtickjmkkgcfkhaaGreat
