import Derived.Test.YtickjmkkgcfkhaaGreatHdRG1
import Derived.Test.YtickjmkkgcfkhaaGreatMsCD
import Derived.Test.YtickjmkkgcfkhaaGreatMsEF
import Derived.Test.YtickjmkkgcfkhaaGreatMsG
/- The reference's small functions of the message: is it a router, is a record none, may a wish be, may an answer be, four bytes. (Printed by mkmra.py.) -/
set_option linter.unusedSimpArgs false
set_option linter.unusedVariables false
set_option maxRecDepth 100000
set_option maxRecDepth 100000
namespace Go.Proofs.YtickjmkkgcfkhaaGreat
open Go.RowKit Go.ChangeShapes Go.WideShapes

theorem rtr6_any (n : Int) (W : World) : Calls Tryz.prog 35 #[.int .i64 n] W fun e W' => e = .returned (.bool (rtr n)) ∧ W = W' := by
  by_cases h1 : 1 ≤ n
  · have e : rtr n = decide (n ≤ 24) := by unfold rtr; rw [decide_eq_true h1, Bool.true_and]
    have h1' : decide (1 ≤ n) = true := decide_eq_true h1
    have HE := Lib.hid e
    clear e
    go_enter Tryz.func35, Tryz.ntmps35
    go_wp2_with fail
    go_returns
    exact ⟨by rw [HE.out]; rfl, rfl⟩
  · have e : rtr n = false := by unfold rtr; rw [decide_eq_false h1, Bool.false_and]
    have h1' : decide (1 ≤ n) = false := decide_eq_false h1
    have HE := Lib.hid e
    clear e
    go_enter Tryz.func35, Tryz.ntmps35
    go_wp2_with fail
    go_returns
    exact ⟨by rw [HE.out]; rfl, rfl⟩
set_option maxHeartbeats 1600000 in
theorem maywish_any (x : Wi) (W : World) : Calls Tryz.prog 38 #[.agg x.cs] W fun e W' => e = .returned (.bool x.may) ∧ Below W.heap.size W W' := by
  obtain ⟨W1, hW1⟩ : ∃ W1, W1 = W.alloc (.cells x.cs 34) := ⟨_, rfl⟩
  have hb1 : Below W.heap.size W W1 := by rw [hW1]; exact (Below.refl _ _).alloc (Nat.le_refl _) _
  have hbx : W1.heap[W.heap.size]? = some (.cells x.cs 34 (0, 0)) := by rw [hW1]; exact heap_alloc_new _ _
  have x0 : W1.cell? ⟨W.heap.size, 0, none⟩ = some (.int .i64 x.frm) := cell_of_row _ _ 0 _ _ _ hbx
  have x1 : W1.cell? ⟨W.heap.size, 1, none⟩ = some (.int .u32 x.ep) := cell_of_row _ _ 1 _ _ _ hbx
  have x2 : W1.cell? ⟨W.heap.size, 2, none⟩ = some (.int .u32 x.ver) := cell_of_row _ _ 2 _ _ _ hbx
  have x3 : W1.cell? ⟨W.heap.size, 3, none⟩ = some (.int .u8 x.grp) := cell_of_row _ _ 3 _ _ _ hbx
  have HW1 := Lib.hid hW1
  have HB1 := Lib.hid hb1
  have hc : (rtr x.frm = false ∧ x.may = false) ∨ (rtr x.frm = true ∧ ¬ 0 < x.ep ∧ x.may = false) ∨ (rtr x.frm = true ∧ 0 < x.ep ∧ ¬ 0 < x.ver ∧ x.may = false) ∨ (rtr x.frm = true ∧ 0 < x.ep ∧ 0 < x.ver ∧ x.may = true) := by
    unfold Wi.may
    cases rtr x.frm <;> by_cases h0 : 0 < x.ep <;> by_cases h1 : 0 < x.ver <;> simp_all
  clear hW1 hb1 hbx
  rcases hc with ⟨h1, he⟩ | ⟨h1, h2, he⟩ | ⟨h1, h2, h3, he⟩ | ⟨h1, h2, h3, he⟩
  · have HE := Lib.hid he
    have H1 := Lib.hid h1
    clear he h1
    go_enter Tryz.func38, Tryz.ntmps38
    unfold Wi.cs at *
    go_wp2_with fail
    rw [← HW1.out]
    refine (rtr6_any _ _).mono ?_
    rintro e w ⟨rfl, rfl⟩
    rw [H1.out]
    go_wp2_with fail
    go_returns
    exact ⟨by rw [HE.out]; rfl, HB1.out⟩
  · have HE := Lib.hid he
    have H1 := Lib.hid h1
    have d2 : decide (0 < x.ep) = false := decide_eq_false h2
    clear he h1
    go_enter Tryz.func38, Tryz.ntmps38
    unfold Wi.cs at *
    go_wp2_with fail
    rw [← HW1.out]
    refine (rtr6_any _ _).mono ?_
    rintro e w ⟨rfl, rfl⟩
    rw [H1.out]
    go_wp2_with fail
    go_returns
    exact ⟨by rw [HE.out]; rfl, HB1.out⟩
  · have HE := Lib.hid he
    have H1 := Lib.hid h1
    have d2 : decide (0 < x.ep) = true := decide_eq_true h2
    have d3 : decide (0 < x.ver) = false := decide_eq_false h3
    clear he h1
    go_enter Tryz.func38, Tryz.ntmps38
    unfold Wi.cs at *
    go_wp2_with fail
    rw [← HW1.out]
    refine (rtr6_any _ _).mono ?_
    rintro e w ⟨rfl, rfl⟩
    rw [H1.out]
    go_wp2_with fail
    go_returns
    exact ⟨by rw [HE.out]; rfl, HB1.out⟩
  · have HE := Lib.hid he
    have H1 := Lib.hid h1
    have d2 : decide (0 < x.ep) = true := decide_eq_true h2
    have d3 : decide (0 < x.ver) = true := decide_eq_true h3
    clear he h1
    go_enter Tryz.func38, Tryz.ntmps38
    unfold Wi.cs at *
    go_wp2_with fail
    rw [← HW1.out]
    refine (rtr6_any _ _).mono ?_
    rintro e w ⟨rfl, rfl⟩
    rw [H1.out]
    go_wp2_with fail
    go_returns
    exact ⟨by rw [HE.out]; rfl, HB1.out⟩
set_option maxHeartbeats 1600000 in
theorem mayack_any (x : Ak) (W : World) : Calls Tryz.prog 39 #[.agg x.cs] W fun e W' => e = .returned (.bool x.may) ∧ Below W.heap.size W W' := by
  obtain ⟨W1, hW1⟩ : ∃ W1, W1 = W.alloc (.cells x.cs 36) := ⟨_, rfl⟩
  have hb1 : Below W.heap.size W W1 := by rw [hW1]; exact (Below.refl _ _).alloc (Nat.le_refl _) _
  have hbx : W1.heap[W.heap.size]? = some (.cells x.cs 36 (0, 0)) := by rw [hW1]; exact heap_alloc_new _ _
  have x0 : W1.cell? ⟨W.heap.size, 0, none⟩ = some (.int .i64 x.frm) := cell_of_row _ _ 0 _ _ _ hbx
  have x1 : W1.cell? ⟨W.heap.size, 1, none⟩ = some (.int .u32 x.ep) := cell_of_row _ _ 1 _ _ _ hbx
  have x2 : W1.cell? ⟨W.heap.size, 2, none⟩ = some (.int .i64 x.dst) := cell_of_row _ _ 2 _ _ _ hbx
  have x3 : W1.cell? ⟨W.heap.size, 3, none⟩ = some (.int .u32 x.lif) := cell_of_row _ _ 3 _ _ _ hbx
  have x4 : W1.cell? ⟨W.heap.size, 4, none⟩ = some (.int .u32 x.ver) := cell_of_row _ _ 4 _ _ _ hbx
  have HW1 := Lib.hid hW1
  have HB1 := Lib.hid hb1
  have hc : (rtr x.frm = false ∧ x.may = false) ∨ (rtr x.frm = true ∧ rtr x.dst = false ∧ x.may = false) ∨ (rtr x.frm = true ∧ rtr x.dst = true ∧ ¬ 0 < x.ep ∧ x.may = false) ∨ (rtr x.frm = true ∧ rtr x.dst = true ∧ 0 < x.ep ∧ ¬ 0 < x.lif ∧ x.may = false) ∨ (rtr x.frm = true ∧ rtr x.dst = true ∧ 0 < x.ep ∧ 0 < x.lif ∧ ¬ 0 < x.ver ∧ x.may = false) ∨ (rtr x.frm = true ∧ rtr x.dst = true ∧ 0 < x.ep ∧ 0 < x.lif ∧ 0 < x.ver ∧ x.may = true) := by
    unfold Ak.may
    cases rtr x.frm <;> cases rtr x.dst <;> by_cases h0 : 0 < x.ep <;> by_cases h1 : 0 < x.lif <;> by_cases h2 : 0 < x.ver <;> simp_all
  clear hW1 hb1 hbx
  rcases hc with ⟨h1, he⟩ | ⟨h1, h2, he⟩ | ⟨h1, h2, h3, he⟩ | ⟨h1, h2, h3, h4, he⟩ | ⟨h1, h2, h3, h4, h5, he⟩ | ⟨h1, h2, h3, h4, h5, he⟩
  · have HE := Lib.hid he
    have H1 := Lib.hid h1
    clear he h1
    go_enter Tryz.func39, Tryz.ntmps39
    unfold Ak.cs at *
    go_wp2_with fail
    rw [← HW1.out]
    refine (rtr6_any _ _).mono ?_
    rintro e w ⟨rfl, rfl⟩
    rw [H1.out]
    go_wp2_with fail
    go_returns
    exact ⟨by rw [HE.out]; rfl, HB1.out⟩
  · have HE := Lib.hid he
    have H1 := Lib.hid h1
    have H2 := Lib.hid h2
    clear he h1 h2
    go_enter Tryz.func39, Tryz.ntmps39
    unfold Ak.cs at *
    go_wp2_with fail
    rw [← HW1.out]
    refine (rtr6_any _ _).mono ?_
    rintro e w ⟨rfl, rfl⟩
    rw [H1.out]
    go_wp2_with fail
    refine (rtr6_any _ _).mono ?_
    rintro e w ⟨rfl, rfl⟩
    rw [H2.out]
    go_wp2_with fail
    go_returns
    exact ⟨by rw [HE.out]; rfl, HB1.out⟩
  · have HE := Lib.hid he
    have H1 := Lib.hid h1
    have H2 := Lib.hid h2
    have d3 : decide (0 < x.ep) = false := decide_eq_false h3
    clear he h1 h2
    go_enter Tryz.func39, Tryz.ntmps39
    unfold Ak.cs at *
    go_wp2_with fail
    rw [← HW1.out]
    refine (rtr6_any _ _).mono ?_
    rintro e w ⟨rfl, rfl⟩
    rw [H1.out]
    go_wp2_with fail
    refine (rtr6_any _ _).mono ?_
    rintro e w ⟨rfl, rfl⟩
    rw [H2.out]
    go_wp2_with fail
    go_returns
    exact ⟨by rw [HE.out]; rfl, HB1.out⟩
  · have HE := Lib.hid he
    have H1 := Lib.hid h1
    have H2 := Lib.hid h2
    have d3 : decide (0 < x.ep) = true := decide_eq_true h3
    have d4 : decide (0 < x.lif) = false := decide_eq_false h4
    clear he h1 h2
    go_enter Tryz.func39, Tryz.ntmps39
    unfold Ak.cs at *
    go_wp2_with fail
    rw [← HW1.out]
    refine (rtr6_any _ _).mono ?_
    rintro e w ⟨rfl, rfl⟩
    rw [H1.out]
    go_wp2_with fail
    refine (rtr6_any _ _).mono ?_
    rintro e w ⟨rfl, rfl⟩
    rw [H2.out]
    go_wp2_with fail
    go_returns
    exact ⟨by rw [HE.out]; rfl, HB1.out⟩
  · have HE := Lib.hid he
    have H1 := Lib.hid h1
    have H2 := Lib.hid h2
    have d3 : decide (0 < x.ep) = true := decide_eq_true h3
    have d4 : decide (0 < x.lif) = true := decide_eq_true h4
    have d5 : decide (0 < x.ver) = false := decide_eq_false h5
    clear he h1 h2
    go_enter Tryz.func39, Tryz.ntmps39
    unfold Ak.cs at *
    go_wp2_with fail
    rw [← HW1.out]
    refine (rtr6_any _ _).mono ?_
    rintro e w ⟨rfl, rfl⟩
    rw [H1.out]
    go_wp2_with fail
    refine (rtr6_any _ _).mono ?_
    rintro e w ⟨rfl, rfl⟩
    rw [H2.out]
    go_wp2_with fail
    go_returns
    exact ⟨by rw [HE.out]; rfl, HB1.out⟩
  · have HE := Lib.hid he
    have H1 := Lib.hid h1
    have H2 := Lib.hid h2
    have d3 : decide (0 < x.ep) = true := decide_eq_true h3
    have d4 : decide (0 < x.lif) = true := decide_eq_true h4
    have d5 : decide (0 < x.ver) = true := decide_eq_true h5
    clear he h1 h2
    go_enter Tryz.func39, Tryz.ntmps39
    unfold Ak.cs at *
    go_wp2_with fail
    rw [← HW1.out]
    refine (rtr6_any _ _).mono ?_
    rintro e w ⟨rfl, rfl⟩
    rw [H1.out]
    go_wp2_with fail
    refine (rtr6_any _ _).mono ?_
    rintro e w ⟨rfl, rfl⟩
    rw [H2.out]
    go_wp2_with fail
    go_returns
    exact ⟨by rw [HE.out]; rfl, HB1.out⟩
theorem nul_cases (r : Rc) : (r.org ≠ 0 ∧ r.nul = false) ∨ (r.org = 0 ∧ r.ep ≠ 0 ∧ r.nul = false) ∨ (r.org = 0 ∧ r.ep = 0 ∧ r.sq ≠ 0 ∧ r.nul = false) ∨ (r.org = 0 ∧ r.ep = 0 ∧ r.sq = 0 ∧ r.clm ≠ 0 ∧ r.nul = false) ∨
    (r.org = 0 ∧ r.ep = 0 ∧ r.sq = 0 ∧ r.clm = 0 ∧ r.ing = true ∧ r.nul = false) ∨ (r.org = 0 ∧ r.ep = 0 ∧ r.sq = 0 ∧ r.clm = 0 ∧ r.ing = false ∧ r.nul = decide (r.adjs.length = 0)) := by
  unfold Rc.nul
  by_cases h1 : r.org = 0
  · by_cases h2 : r.ep = 0
    · by_cases h3 : r.sq = 0
      · by_cases h4 : r.clm = 0
        · cases h5 : r.ing
          · right; right; right; right; right
            refine ⟨h1, h2, h3, h4, rfl, ?_⟩
            simp [h1, h2, h3, h4]
            by_cases h6 : r.adjs = [] <;> simp [h6]
          · simp [h1, h2, h3, h4]
        · simp [h1, h2, h3, h4]
      · simp [h1, h2, h3]
    · simp [h1, h2]
  · simp [h1]
set_option maxHeartbeats 1600000 in
theorem norec_any (r : Rc) (sa : Option Addr) (sc : Nat) (W : World) : Calls Tryz.prog 34 #[r.ag sa sc] W fun e W' => e = .returned (.bool r.nul) ∧ Below W.heap.size W W' := by
  obtain ⟨W1, hW1⟩ : ∃ W1, W1 = W.alloc (.cells (r.cs sa sc) 25) := ⟨_, rfl⟩
  have hb1 : Below W.heap.size W W1 := by rw [hW1]; exact (Below.refl _ _).alloc (Nat.le_refl _) _
  have hbx : W1.heap[W.heap.size]? = some (.cells (r.cs sa sc) 25 (0, 0)) := by rw [hW1]; exact heap_alloc_new _ _
  have x0 : W1.cell? ⟨W.heap.size, 0, none⟩ = some (.int .i64 r.org) := cell_of_row _ _ 0 _ _ _ hbx
  have x1 : W1.cell? ⟨W.heap.size, 1, none⟩ = some (.int .u32 r.ep) := cell_of_row _ _ 1 _ _ _ hbx
  have x2 : W1.cell? ⟨W.heap.size, 2, none⟩ = some (.int .u32 r.sq) := cell_of_row _ _ 2 _ _ _ hbx
  have x3 : W1.cell? ⟨W.heap.size, 3, none⟩ = some (.int .i64 r.clm) := cell_of_row _ _ 3 _ _ _ hbx
  have x4 : W1.cell? ⟨W.heap.size, 4, none⟩ = some (.bool r.ing) := cell_of_row _ _ 4 _ _ _ hbx
  have x5 : W1.cell? ⟨W.heap.size, 5, none⟩ = some (.slice sa r.adjs.length sc) := cell_of_row _ _ 5 _ _ _ hbx
  have HW1 := Lib.hid hW1
  have HB1 := Lib.hid hb1
  have hc := nul_cases r
  have HNN := Lib.hid (show ((r.adjs.length : Int) == 0) = decide (r.adjs.length = 0) from by rw [Bool.eq_iff_iff, beq_iff_eq, decide_eq_true_eq]; omega)
  clear hW1 hb1 hbx
  rcases hc with ⟨h1, he⟩ | ⟨h1, h2, he⟩ | ⟨h1, h2, h3, he⟩ | ⟨h1, h2, h3, h4, he⟩ | ⟨h1, h2, h3, h4, h5, he⟩ | ⟨h1, h2, h3, h4, h5, he⟩
  · have HE := Lib.hid he
    have e1 : (r.org == 0) = false := by simpa using h1
    clear he h1
    go_enter Tryz.func34, Tryz.ntmps34
    unfold Rc.ag Rc.cs at *
    go_wp2_with fail
    go_returns
    exact ⟨by rw [HE.out]; try rfl, (Below.refl _ _).alloc (Nat.le_refl _) _⟩
  · have HE := Lib.hid he
    have e1 : (r.org == 0) = true := by simpa using h1
    have e2 : ((r.ep : Int) == 0) = false := by simpa using h2
    clear he h1 h2
    go_enter Tryz.func34, Tryz.ntmps34
    unfold Rc.ag Rc.cs at *
    go_wp2_with fail
    go_returns
    exact ⟨by rw [HE.out]; try rfl, (Below.refl _ _).alloc (Nat.le_refl _) _⟩
  · have HE := Lib.hid he
    have e1 : (r.org == 0) = true := by simpa using h1
    have e2 : ((r.ep : Int) == 0) = true := by simpa using h2
    have e3 : ((r.sq : Int) == 0) = false := by simpa using h3
    clear he h1 h2 h3
    go_enter Tryz.func34, Tryz.ntmps34
    unfold Rc.ag Rc.cs at *
    go_wp2_with fail
    go_returns
    exact ⟨by rw [HE.out]; try rfl, (Below.refl _ _).alloc (Nat.le_refl _) _⟩
  · have HE := Lib.hid he
    have e1 : (r.org == 0) = true := by simpa using h1
    have e2 : ((r.ep : Int) == 0) = true := by simpa using h2
    have e3 : ((r.sq : Int) == 0) = true := by simpa using h3
    have e4 : (r.clm == 0) = false := by simpa using h4
    clear he h1 h2 h3 h4
    go_enter Tryz.func34, Tryz.ntmps34
    unfold Rc.ag Rc.cs at *
    go_wp2_with fail
    go_returns
    exact ⟨by rw [HE.out]; try rfl, (Below.refl _ _).alloc (Nat.le_refl _) _⟩
  · have HE := Lib.hid he
    have e1 : (r.org == 0) = true := by simpa using h1
    have e2 : ((r.ep : Int) == 0) = true := by simpa using h2
    have e3 : ((r.sq : Int) == 0) = true := by simpa using h3
    have e4 : (r.clm == 0) = true := by simpa using h4
    rw [h5] at x4
    clear he h1 h2 h3 h4
    go_enter Tryz.func34, Tryz.ntmps34
    unfold Rc.ag Rc.cs at *
    rw [h5]
    clear h5
    go_wp2_with fail
    go_returns
    exact ⟨by rw [HE.out]; try rfl, (Below.refl _ _).alloc (Nat.le_refl _) _⟩
  · have HE := Lib.hid he
    have e1 : (r.org == 0) = true := by simpa using h1
    have e2 : ((r.ep : Int) == 0) = true := by simpa using h2
    have e3 : ((r.sq : Int) == 0) = true := by simpa using h3
    have e4 : (r.clm == 0) = true := by simpa using h4
    rw [h5] at x4
    clear he h1 h2 h3 h4
    go_enter Tryz.func34, Tryz.ntmps34
    unfold Rc.ag Rc.cs at *
    rw [h5]
    clear h5
    go_wp2_with fail
    go_returns
    exact ⟨by rw [HE.out, ← HNN.out]; rfl, (Below.refl _ _).alloc (Nat.le_refl _) _⟩

end Go.Proofs.YtickjmkkgcfkhaaGreat

/- Contract of the reference's Check of a message. (Printed by mkmrb.py.) -/
set_option linter.unusedSimpArgs false
set_option linter.unusedVariables false
set_option maxRecDepth 100000
set_option maxRecDepth 100000
namespace Go.Proofs.YtickjmkkgcfkhaaGreat
open Go.RowKit Go.ChangeShapes Go.WideShapes

/-- 'x == y' of structs: the run, where the comparison's is known. -/
theorem run_eql {P : Program} {W : World} {o : Oper} {a : Act} {t : TypeId} {x y : Operand} {t2 : TypeId} {cx cy : Array Value} {b : Bool} (ho : o.op = .binOp .eql t x y t2) (hx : a.eval x = .agg cx) (hy : a.eval y = .agg cy) (hg : P.eqGuardType P.depth t = false)
    (h : (Op.equalIn 10000 t (.agg cx) (.agg cy)).run P W = .ok b W) : (execOp a.eval o).run P W = .ok (.value (.bool b)) W := by
  unfold execOp
  simp only [ho, hx, hy]
  simp [eqGuard, hg, binOp, Op.equal, Op.maxDepth, h, Sem.run_bind]
theorem zs_if {α : Type} (m : Ms) (f : Bool → α) : (if m.st.org = 0 then if m.st.ep = 0 then if m.st.sq = 0 then f true else f false else f false else f false) = f m.zs := by
  obtain ⟨_, _, ⟨a, b, c⟩, _⟩ := m
  by_cases h1 : a = 0 <;> by_cases h2 : b = 0 <;> by_cases h3 : c = 0 <;> simp [Ms.zs, h1, h2, h3]
theorem zw_if {α : Type} (m : Ms) (f : Bool → α) : (if m.wi.frm = 0 then if m.wi.ep = 0 then if m.wi.ver = 0 then if m.wi.grp = 0 then f true else f false else f false else f false else f false) = f m.zw := by
  obtain ⟨_, _, _, _, _, _, ⟨a, b, c, d⟩, _⟩ := m
  by_cases h1 : a = 0 <;> by_cases h2 : b = 0 <;> by_cases h3 : c = 0 <;> by_cases h4 : d = 0 <;> simp [Ms.zw, Wi.zero, h1, h2, h3, h4]
theorem za_if {α : Type} (m : Ms) (f : Bool → α) : (if m.ak.frm = 0 then if m.ak.ep = 0 then if m.ak.dst = 0 then if m.ak.lif = 0 then if m.ak.ver = 0 then f true else f false else f false else f false else f false else f false) = f m.za := by
  obtain ⟨_, _, _, _, _, _, _, ⟨a, b, c, d, e⟩⟩ := m
  by_cases h1 : a = 0 <;> by_cases h2 : b = 0 <;> by_cases h3 : c = 0 <;> by_cases h4 : d = 0 <;> by_cases h5 : e = 0 <;> simp [Ms.za, Ak.zero, h1, h2, h3, h4, h5]
/-- What is there while a message is looked at. -/
structure RkS (W : World) (m : Ms) (sa : Option Addr) (sc : Nat) (V : World) : Prop where
  bel : Below W.heap.size W V
  box : BoxM W.heap.size m sa sc V
  adj : AdjsIn V sa m.rc.adjs
theorem RkS.later {W V X : World} {m : Ms} {sa : Option Addr} {sc : Nat} (h : RkS W m sa sc V) (hb : Below V.heap.size V X) : RkS W m sa sc X := ⟨h.bel.trans (hb.mono h.bel.size), h.box.later hb, h.adj.later hb⟩
theorem RkS.start {W W1 : World} {m : Ms} {sa : Option Addr} {sc : Nat} (h : AdjsIn W sa m.rc.adjs) (hW : W1 = W.alloc (.cells (m.cs sa sc) 38)) : RkS W m sa sc W1 := by
  have hb1 : Below W.heap.size W W1 := by rw [hW]; exact (Below.refl _ _).alloc (Nat.le_refl _) _
  exact ⟨hb1, by rw [hW]; exact heap_alloc_new _ _, h.later hb1⟩

set_option maxHeartbeats 6400000 in
theorem rmcheck_any (m : Ms) (sa : Option Addr) (sc : Nat) (W : World) (hm : m.ok) (hA : AdjsIn W sa m.rc.adjs) (hl : m.rc.adjs.length ≤ maxLen) : Calls Tryz.prog 18 #[m.ag sa sc] W fun e W' => e = .returned (.int .i64 m.err) ∧ Below W.heap.size W W' := by
  obtain ⟨W1, hW1⟩ : ∃ W1, W1 = W.alloc (.cells (m.cs sa sc) 38) := ⟨_, rfl⟩
  have HS1 := Lib.hid (RkS.start hA hW1)
  have HW1 := Lib.hid hW1
  have HOK := Lib.hid hm
  have HL := Lib.hid hl
  clear hW1 hA hm hl
  go_enter Tryz.func18, Tryz.ntmps18
  unfold Ms.ag at *
  go_upto_region 1 with fail
  rw [← HW1.out]
  go_cut [3, 4, 5] (fun s3 s4 s5 wx => s3 = .bool m.zr ∧ s4 = .bool m.zs ∧ s5 = .bool m.zh ∧ RkS W m sa sc wx)
  case first =>
    obtain ⟨U, hU⟩ : ∃ U, U = W1.drew := ⟨_, rfl⟩
    have HU := Lib.hid (show RkS W m sa sc U by rw [hU]; exact HS1.out.later (drew_below _))
    have HUE := Lib.hid hU
    clear hU
    refine wp_region_ord [(0, true), (1, true), (3, true), (4, true), (5, true), (6, true), (7, true), (8, true), (9, true), (10, true), (2, false), (11, true), (12, true), (13, true)] (RkS W m sa sc) (by kernel_rfl) (by kernel_rfl) (by decide) (by kernel_rfl) (fun d _ _ _ _ h => by cases d <;> exact h) (by rw [← HUE.out]; exact HU.out) ?_
    rw [← HUE.out]
    (apply wpOrd_take rfl rfl (by kernel_rfl); (intro V hV; go_simp; rfl)); (try simp only [List.setIfInBounds_toArray, List.set_cons_succ, List.set_cons_zero])
    (apply wpOrd_take rfl rfl (by kernel_rfl); (intro V hV; have x1 : V.cell? ⟨W.heap.size, 1, none⟩ = some (.int .i64 m.rc.org) := hV.box.cell rfl; have x2 : V.cell? ⟨W.heap.size, 2, none⟩ = some (.int .u32 m.rc.ep) := hV.box.cell rfl; have x3 : V.cell? ⟨W.heap.size, 3, none⟩ = some (.int .u32 m.rc.sq) := hV.box.cell rfl; have x4 : V.cell? ⟨W.heap.size, 4, none⟩ = some (.int .i64 m.rc.clm) := hV.box.cell rfl; have x5 : V.cell? ⟨W.heap.size, 5, none⟩ = some (.bool m.rc.ing) := hV.box.cell rfl; have x6 : V.cell? ⟨W.heap.size, 6, none⟩ = some (.slice sa m.rc.adjs.length sc) := hV.box.cell rfl; go_simp; rfl)); (try simp only [List.setIfInBounds_toArray, List.set_cons_succ, List.set_cons_zero])
    (apply wpOrd_take rfl rfl (by kernel_rfl); (intro V hV; go_simp; rfl)); (try simp only [List.setIfInBounds_toArray, List.set_cons_succ, List.set_cons_zero])
    (apply wpOrd_take rfl rfl (by kernel_rfl); (intro V hV; have x7 : V.cell? ⟨W.heap.size, 7, none⟩ = some (.int .i64 m.st.org) := hV.box.cell rfl; have x8 : V.cell? ⟨W.heap.size, 8, none⟩ = some (.int .u32 m.st.ep) := hV.box.cell rfl; have x9 : V.cell? ⟨W.heap.size, 9, none⟩ = some (.int .u32 m.st.sq) := hV.box.cell rfl; go_simp; rfl)); (try simp only [List.setIfInBounds_toArray, List.set_cons_succ, List.set_cons_zero])
    (apply wpOrd_take rfl rfl (by kernel_rfl); (intro V hV; go_simp; rfl)); (try simp only [List.setIfInBounds_toArray, List.set_cons_succ, List.set_cons_zero])
    (apply wpOrd_take (v := .bool m.zs) rfl rfl (by kernel_rfl); (intro V hV; go_simp; exact zs_if m (fun b => Result.ok (Next.value (Value.bool b)) V))); (try simp only [List.setIfInBounds_toArray, List.set_cons_succ, List.set_cons_zero])
    (apply wpOrd_take rfl rfl (by kernel_rfl); (intro V hV; go_simp; rfl)); (try simp only [List.setIfInBounds_toArray, List.set_cons_succ, List.set_cons_zero])
    (apply wpOrd_take rfl rfl (by kernel_rfl); (intro V hV; have x10 : V.cell? ⟨W.heap.size, 10, none⟩ = some (.int .i64 m.hd.wid) := hV.box.cell rfl; have x11 : V.cell? ⟨W.heap.size, 11, none⟩ = some (.int .i64 m.hd.set) := hV.box.cell rfl; have x12 : V.cell? ⟨W.heap.size, 12, none⟩ = some (.int .u32 m.hd.ent) := hV.box.cell rfl; have x13 : V.cell? ⟨W.heap.size, 13, none⟩ = some (.int .i64 m.hd.hops) := hV.box.cell rfl; have x14 : V.cell? ⟨W.heap.size, 14, none⟩ = some (.int .i64 m.hd.src) := hV.box.cell rfl; have x15 : V.cell? ⟨W.heap.size, 15, none⟩ = some (.int .i64 m.hd.grp) := hV.box.cell rfl; have x16 : V.cell? ⟨W.heap.size, 16, none⟩ = some (.int .u32 m.hd.id) := hV.box.cell rfl; have x17 : V.cell? ⟨W.heap.size, 17, none⟩ = some (.int .u64 m.hd.bits.a) := hV.box.cell rfl; have x18 : V.cell? ⟨W.heap.size, 18, none⟩ = some (.int .u64 m.hd.bits.b) := hV.box.cell rfl; have x19 : V.cell? ⟨W.heap.size, 19, none⟩ = some (.int .u64 m.hd.bits.c) := hV.box.cell rfl; have x20 : V.cell? ⟨W.heap.size, 20, none⟩ = some (.int .u64 m.hd.bits.d) := hV.box.cell rfl; go_simp; rfl)); (try simp only [List.setIfInBounds_toArray, List.set_cons_succ, List.set_cons_zero])
    (apply wpOrd_take rfl rfl (by kernel_rfl); (intro V hV; go_simp; rfl)); (try simp only [List.setIfInBounds_toArray, List.set_cons_succ, List.set_cons_zero])
    (apply wpOrd_take (v := .bool m.zh) rfl rfl (by kernel_rfl); (intro V hV; exact run_eql rfl rfl rfl (by kernel_rfl) (eq_hd0 m.hd m.zh HOK.out.2.2.2.1 rfl V))); (try simp only [List.setIfInBounds_toArray, List.set_cons_succ, List.set_cons_zero])
    apply wpOrd_do rfl (by kernel_rfl)
    intro K hK
    go_simp
    refine (norec_any m.rc sa sc _).mono ?_
    rintro e U2 ⟨rfl, hb⟩
    have HU2 := Lib.hid (HU.out.later hb)
    refine hK _ _ HU2.out ?_
    clear hK K hb
    iterate 3 ((apply wpOrd_take rfl rfl (by kernel_rfl); (intro V hV; go_simp; rfl)); (try simp only [List.setIfInBounds_toArray, List.set_cons_succ, List.set_cons_zero]))
    refine wpOrd_nil ?_
    go_wp2_with fail
    go_meet
    exact ⟨rfl, rfl, rfl, HU2.out⟩
  case rest =>
    obtain ⟨rfl, rfl, rfl, hS⟩ := hcut
    have HS2 := Lib.hid hS
    clear hS
    go_upto_region 2 with fail
    go_cut [6, 7, 8] (fun s6 s7 s8 wx => s6 = .bool m.zw ∧ s7 = .bool m.za ∧ s8 = .bool m.zy ∧ RkS W m sa sc wx)
    case first =>
      obtain ⟨U, hU⟩ : ∃ U, U = wc.drew := ⟨_, rfl⟩
      have HU := Lib.hid (show RkS W m sa sc U by rw [hU]; exact HS2.out.later (drew_below _))
      have HUE := Lib.hid hU
      clear hU
      refine wp_region_ord [(0, true), (1, true), (2, true), (3, true), (4, true), (5, true), (6, true), (7, true), (8, true), (9, true), (10, true), (11, true), (12, true), (13, true), (14, true), (15, true), (16, true), (17, true), (18, true)] (RkS W m sa sc) (by kernel_rfl) (by kernel_rfl) (by decide) (by kernel_rfl) (fun d _ _ _ _ h => by cases d <;> exact h) (by rw [← HUE.out]; exact HU.out) ?_
      rw [← HUE.out]
      (apply wpOrd_take rfl rfl (by kernel_rfl); (intro V hV; go_simp; rfl)); (try simp only [List.setIfInBounds_toArray, List.set_cons_succ, List.set_cons_zero])
      (apply wpOrd_take rfl rfl (by kernel_rfl); (intro V hV; have x23 : V.cell? ⟨W.heap.size, 23, none⟩ = some (.int .i64 m.wi.frm) := hV.box.cell rfl; have x24 : V.cell? ⟨W.heap.size, 24, none⟩ = some (.int .u32 m.wi.ep) := hV.box.cell rfl; have x25 : V.cell? ⟨W.heap.size, 25, none⟩ = some (.int .u32 m.wi.ver) := hV.box.cell rfl; have x26 : V.cell? ⟨W.heap.size, 26, none⟩ = some (.int .u8 m.wi.grp) := hV.box.cell rfl; go_simp; rfl)); (try simp only [List.setIfInBounds_toArray, List.set_cons_succ, List.set_cons_zero])
      (apply wpOrd_take rfl rfl (by kernel_rfl); (intro V hV; go_simp; rfl)); (try simp only [List.setIfInBounds_toArray, List.set_cons_succ, List.set_cons_zero])
      (apply wpOrd_take (v := .bool m.zw) rfl rfl (by kernel_rfl); (intro V hV; go_simp; exact zw_if m (fun b => Result.ok (Next.value (Value.bool b)) V))); (try simp only [List.setIfInBounds_toArray, List.set_cons_succ, List.set_cons_zero])
      (apply wpOrd_take rfl rfl (by kernel_rfl); (intro V hV; go_simp; rfl)); (try simp only [List.setIfInBounds_toArray, List.set_cons_succ, List.set_cons_zero])
      (apply wpOrd_take rfl rfl (by kernel_rfl); (intro V hV; have x27 : V.cell? ⟨W.heap.size, 27, none⟩ = some (.int .i64 m.ak.frm) := hV.box.cell rfl; have x28 : V.cell? ⟨W.heap.size, 28, none⟩ = some (.int .u32 m.ak.ep) := hV.box.cell rfl; have x29 : V.cell? ⟨W.heap.size, 29, none⟩ = some (.int .i64 m.ak.dst) := hV.box.cell rfl; have x30 : V.cell? ⟨W.heap.size, 30, none⟩ = some (.int .u32 m.ak.lif) := hV.box.cell rfl; have x31 : V.cell? ⟨W.heap.size, 31, none⟩ = some (.int .u32 m.ak.ver) := hV.box.cell rfl; go_simp; rfl)); (try simp only [List.setIfInBounds_toArray, List.set_cons_succ, List.set_cons_zero])
      (apply wpOrd_take rfl rfl (by kernel_rfl); (intro V hV; go_simp; rfl)); (try simp only [List.setIfInBounds_toArray, List.set_cons_succ, List.set_cons_zero])
      (apply wpOrd_take (v := .bool m.za) rfl rfl (by kernel_rfl); (intro V hV; go_simp; exact za_if m (fun b => Result.ok (Next.value (Value.bool b)) V))); (try simp only [List.setIfInBounds_toArray, List.set_cons_succ, List.set_cons_zero])
      (apply wpOrd_take rfl rfl (by kernel_rfl); (intro V hV; go_simp; rfl)); (try simp only [List.setIfInBounds_toArray, List.set_cons_succ, List.set_cons_zero])
      (apply wpOrd_take rfl rfl (by kernel_rfl); (intro V hV; have x21 : V.cell? ⟨W.heap.size, 21, none⟩ = some (.int .i64 m.dst) := hV.box.cell rfl; go_simp; rfl)); (try simp only [List.setIfInBounds_toArray, List.set_cons_succ, List.set_cons_zero])
      by_cases hd : m.dst = 0
      · have hd0 : (m.dst == 0) = true := by simpa using hd
        have HY := Lib.hid (show m.zy = (m.hops == 0) by unfold Ms.zy; rw [hd0, Bool.true_and])
        clear hd
        (apply wpOrd_take rfl rfl (by kernel_rfl); (intro V hV; go_simp; rfl)); (try simp only [List.setIfInBounds_toArray, List.set_cons_succ, List.set_cons_zero])
        (apply wpOrd_take rfl rfl (by kernel_rfl); (intro V hV; go_simp; rfl)); (try simp only [List.setIfInBounds_toArray, List.set_cons_succ, List.set_cons_zero])
        (apply wpOrd_take rfl rfl (by kernel_rfl); (intro V hV; go_simp; rfl)); (try simp only [List.setIfInBounds_toArray, List.set_cons_succ, List.set_cons_zero])
        (apply wpOrd_take rfl rfl (by kernel_rfl); (intro V hV; have x22 : V.cell? ⟨W.heap.size, 22, none⟩ = some (.int .i64 m.hops) := hV.box.cell rfl; go_simp; rfl)); (try simp only [List.setIfInBounds_toArray, List.set_cons_succ, List.set_cons_zero])
        (apply wpOrd_take rfl rfl (by kernel_rfl); (intro V hV; go_simp; rfl)); (try simp only [List.setIfInBounds_toArray, List.set_cons_succ, List.set_cons_zero])
        iterate 4 ((apply wpOrd_take rfl rfl (by kernel_rfl); (intro V hV; go_simp; rfl)); (try simp only [List.setIfInBounds_toArray, List.set_cons_succ, List.set_cons_zero]))
        refine wpOrd_nil ?_
        go_wp2_with fail
        go_meet
        exact ⟨rfl, rfl, by rw [HY.out], HU.out⟩
      · have hd0 : (m.dst == 0) = false := by simpa using hd
        have HY := Lib.hid (show m.zy = false by unfold Ms.zy; rw [hd0, Bool.false_and])
        clear hd
        (apply wpOrd_take rfl rfl (by kernel_rfl); (intro V hV; go_simp; rfl)); (try simp only [List.setIfInBounds_toArray, List.set_cons_succ, List.set_cons_zero])
        (apply wpOrd_take rfl rfl (by kernel_rfl); (intro V hV; go_simp; rfl)); (try simp only [List.setIfInBounds_toArray, List.set_cons_succ, List.set_cons_zero])
        iterate 3 ((apply wpOrd_skip rfl rfl (by kernel_rfl)); (try simp only [List.setIfInBounds_toArray, List.set_cons_succ, List.set_cons_zero]))
        iterate 4 ((apply wpOrd_take rfl rfl (by kernel_rfl); (intro V hV; go_simp; rfl)); (try simp only [List.setIfInBounds_toArray, List.set_cons_succ, List.set_cons_zero]))
        refine wpOrd_nil ?_
        go_wp2_with fail
        go_meet
        exact ⟨rfl, rfl, by rw [HY.out], HU.out⟩
    case rest =>
      obtain ⟨rfl, rfl, rfl, hS⟩ := hcut
      have HS3 := Lib.hid hS
      clear hS HS2
      go_upto_region 3 with fail
      go_cut [9] (fun s9 wx => s9 = .bool m.way ∧ RkS W m sa sc wx)
      case first =>
        have HR := Lib.hid (fun V => rtr6_any m.dst V)
        have x21 : wc.cell? ⟨W.heap.size, 21, none⟩ = some (.int .i64 m.dst) := HS3.out.box.cell rfl
        have x22 : wc.cell? ⟨W.heap.size, 22, none⟩ = some (.int .i64 m.hops) := HS3.out.box.cell rfl
        rcases way_cases m with ⟨h1, he⟩ | ⟨h1, h2, he⟩ | ⟨h1, h2, he⟩
        · have H1 := Lib.hid h1
          have HE := Lib.hid he
          clear h1 he
          go_wp2_with fail
          refine (HR.out _).mono ?_
          rintro e w ⟨rfl, rfl⟩
          rw [H1.out]
          go_wp2_with fail
          go_meet
          exact ⟨by rw [HE.out], HS3.out⟩
        · have H1 := Lib.hid h1
          have HE := Lib.hid he
          have d2 : decide (0 ≤ m.hops) = false := decide_eq_false (by omega)
          clear h1 he
          go_wp2_with fail
          refine (HR.out _).mono ?_
          rintro e w ⟨rfl, rfl⟩
          rw [H1.out]
          go_wp2_with fail
          go_meet
          exact ⟨by rw [HE.out], HS3.out⟩
        · have H1 := Lib.hid h1
          have HE := Lib.hid he
          have d2 : decide (0 ≤ m.hops) = true := decide_eq_true (by omega)
          clear h1 he
          go_wp2_with fail
          refine (HR.out _).mono ?_
          rintro e w ⟨rfl, rfl⟩
          rw [H1.out]
          go_wp2_with fail
          go_meet
          exact ⟨by rw [HE.out], HS3.out⟩
      case rest =>
        obtain ⟨rfl, hS⟩ := hcut
        have HS4 := Lib.hid hS
        clear hS HS3
        have x0 : wc.cell? ⟨W.heap.size, 0, none⟩ = some (.int .i64 m.kd) := HS4.out.box.cell rfl
        obtain ⟨z1, hz1⟩ : ∃ z, z = m.zr := ⟨_, rfl⟩
        obtain ⟨z2, hz2⟩ : ∃ z, z = m.zs := ⟨_, rfl⟩
        obtain ⟨z3, hz3⟩ : ∃ z, z = m.zh := ⟨_, rfl⟩
        obtain ⟨z4, hz4⟩ : ∃ z, z = m.zy := ⟨_, rfl⟩
        obtain ⟨z5, hz5⟩ : ∃ z, z = m.zw := ⟨_, rfl⟩
        obtain ⟨z6, hz6⟩ : ∃ z, z = m.za := ⟨_, rfl⟩
        obtain ⟨z7, hz7⟩ : ∃ z, z = m.way := ⟨_, rfl⟩
        have HERR := Lib.hid (show m.err = if (m.isk && (if m.kd = 1 then z2 && z3 && z4 && z5 && z6 else if m.kd = 2 then z1 && z3 && z4 && z5 && z6 else if m.kd = 3 then z1 && z2 && z4 && z5 && z6 else if m.kd = 4 then z1 && z2 && z3 && z6 else z1 && z2 && z3 && z5) &&
          (if m.kd = 1 then m.rc.chk else if m.kd = 2 then m.st.may else if m.kd = 3 then m.hd.chk else if m.kd = 4 then z7 && m.wi.may else z7 && m.ak.may)) = true then 0 else 2 from by rw [hz1, hz2, hz3, hz4, hz5, hz6, hz7]; rfl)
        rw [← hz1, ← hz2, ← hz3, ← hz4, ← hz5, ← hz6, ← hz7]
        clear hz1 hz2 hz3 hz4 hz5 hz6 hz7
        by_cases hk : m.kd = 1
        · skip
          rw [hk] at x0
          have HE1 := Lib.hid (show m.err = if (z2 && z3 && z4 && z5 && z6 && m.rc.chk) = true then 0 else 2 from by rw [HERR.out]; simp [Ms.isk, hk, and_assoc])
          have x1 : wc.cell? ⟨W.heap.size, 1, none⟩ = some (.int .i64 m.rc.org) := HS4.out.box.cell rfl
          have x2 : wc.cell? ⟨W.heap.size, 2, none⟩ = some (.int .u32 m.rc.ep) := HS4.out.box.cell rfl
          have x3 : wc.cell? ⟨W.heap.size, 3, none⟩ = some (.int .u32 m.rc.sq) := HS4.out.box.cell rfl
          have x4 : wc.cell? ⟨W.heap.size, 4, none⟩ = some (.int .i64 m.rc.clm) := HS4.out.box.cell rfl
          have x5 : wc.cell? ⟨W.heap.size, 5, none⟩ = some (.bool m.rc.ing) := HS4.out.box.cell rfl
          have x6 : wc.cell? ⟨W.heap.size, 6, none⟩ = some (.slice sa m.rc.adjs.length sc) := HS4.out.box.cell rfl
          clear hk HERR
          cases z2 with
          | false =>
            have HE := Lib.hid (show m.err = 2 from by rw [HE1.out]; simp)
            go_wp2_with fail
            all_goals (go_returns; exact ⟨by rw [HE.out]; rfl, HS4.out.bel⟩)
          | true =>
            cases z3 with
            | false =>
              have HE := Lib.hid (show m.err = 2 from by rw [HE1.out]; simp)
              go_wp2_with fail
              all_goals (go_returns; exact ⟨by rw [HE.out]; rfl, HS4.out.bel⟩)
            | true =>
              cases z4 with
              | false =>
                have HE := Lib.hid (show m.err = 2 from by rw [HE1.out]; simp)
                go_wp2_with fail
                all_goals (go_returns; exact ⟨by rw [HE.out]; rfl, HS4.out.bel⟩)
              | true =>
                cases z5 with
                | false =>
                  have HE := Lib.hid (show m.err = 2 from by rw [HE1.out]; simp)
                  go_wp2_with fail
                  all_goals (go_returns; exact ⟨by rw [HE.out]; rfl, HS4.out.bel⟩)
                | true =>
                  cases z6 with
                  | false =>
                    have HE := Lib.hid (show m.err = 2 from by rw [HE1.out]; simp)
                    go_wp2_with fail
                    all_goals (go_returns; exact ⟨by rw [HE.out]; rfl, HS4.out.bel⟩)
                  | true =>
                    cases hc : m.rc.chk with
                    | false =>
                      have HE := Lib.hid (show m.err = 2 from by rw [HE1.out, hc]; rfl)
                      have HC := Lib.hid (show Calls Tryz.prog 36 #[.agg #[.int .i64 m.rc.org, .int .u32 m.rc.ep, .int .u32 m.rc.sq, .int .i64 m.rc.clm, .bool m.rc.ing, .slice sa m.rc.adjs.length sc]] wc (fun e V => e = .returned (.int .i64 2) ∧ Below wc.heap.size wc V) from (rcheck_any m.rc sa sc wc HS4.out.adj HL.out).mono fun e V h => by
                        rw [show m.rc.err = 2 from by unfold Rc.err; rw [hc]; rfl] at h
                        exact h)
                      clear hc
                      go_wp2_with fail
                      refine HC.out.mono ?_
                      rintro e V ⟨rfl, hb⟩
                      have HS5 := Lib.hid (HS4.out.later hb)
                      clear hb HC x1 x2 x3 x4 x5 x6
                      go_wp2_with fail
                      all_goals (go_returns; exact ⟨by rw [HE.out]; rfl, HS5.out.bel⟩)
                    | true =>
                      have HE := Lib.hid (show m.err = 0 from by rw [HE1.out, hc]; rfl)
                      have HC := Lib.hid (show Calls Tryz.prog 36 #[.agg #[.int .i64 m.rc.org, .int .u32 m.rc.ep, .int .u32 m.rc.sq, .int .i64 m.rc.clm, .bool m.rc.ing, .slice sa m.rc.adjs.length sc]] wc (fun e V => e = .returned (.int .i64 0) ∧ Below wc.heap.size wc V) from (rcheck_any m.rc sa sc wc HS4.out.adj HL.out).mono fun e V h => by
                        rw [show m.rc.err = 0 from by unfold Rc.err; rw [hc]; rfl] at h
                        exact h)
                      clear hc
                      go_wp2_with fail
                      refine HC.out.mono ?_
                      rintro e V ⟨rfl, hb⟩
                      have HS5 := Lib.hid (HS4.out.later hb)
                      clear hb HC x1 x2 x3 x4 x5 x6
                      go_wp2_with fail
                      all_goals (go_returns; exact ⟨by rw [HE.out]; rfl, HS5.out.bel⟩)
        have g1 := hk
        have e1 : (m.kd == 1) = false := by simpa using hk
        clear hk
        by_cases hk : m.kd = 2
        · skip
          rw [hk] at x0
          have HE1 := Lib.hid (show m.err = if (z1 && z3 && z4 && z5 && z6 && m.st.may) = true then 0 else 2 from by rw [HERR.out]; simp [Ms.isk, hk, and_assoc])
          have x7 : wc.cell? ⟨W.heap.size, 7, none⟩ = some (.int .i64 m.st.org) := HS4.out.box.cell rfl
          have x8 : wc.cell? ⟨W.heap.size, 8, none⟩ = some (.int .u32 m.st.ep) := HS4.out.box.cell rfl
          have x9 : wc.cell? ⟨W.heap.size, 9, none⟩ = some (.int .u32 m.st.sq) := HS4.out.box.cell rfl
          clear hk HERR
          cases z1 with
          | false =>
            have HE := Lib.hid (show m.err = 2 from by rw [HE1.out]; simp)
            go_wp2_with fail
            all_goals (go_returns; exact ⟨by rw [HE.out]; rfl, HS4.out.bel⟩)
          | true =>
            cases z3 with
            | false =>
              have HE := Lib.hid (show m.err = 2 from by rw [HE1.out]; simp)
              go_wp2_with fail
              all_goals (go_returns; exact ⟨by rw [HE.out]; rfl, HS4.out.bel⟩)
            | true =>
              cases z4 with
              | false =>
                have HE := Lib.hid (show m.err = 2 from by rw [HE1.out]; simp)
                go_wp2_with fail
                all_goals (go_returns; exact ⟨by rw [HE.out]; rfl, HS4.out.bel⟩)
              | true =>
                cases z5 with
                | false =>
                  have HE := Lib.hid (show m.err = 2 from by rw [HE1.out]; simp)
                  go_wp2_with fail
                  all_goals (go_returns; exact ⟨by rw [HE.out]; rfl, HS4.out.bel⟩)
                | true =>
                  cases z6 with
                  | false =>
                    have HE := Lib.hid (show m.err = 2 from by rw [HE1.out]; simp)
                    go_wp2_with fail
                    all_goals (go_returns; exact ⟨by rw [HE.out]; rfl, HS4.out.bel⟩)
                  | true =>
                    cases hc : m.st.may with
                    | false =>
                      have HE := Lib.hid (show m.err = 2 from by rw [HE1.out, hc]; rfl)
                      have HC := Lib.hid (show Calls Tryz.prog 37 #[.agg #[.int .i64 m.st.org, .int .u32 m.st.ep, .int .u32 m.st.sq]] wc (fun e V => e = .returned (.bool false) ∧ Below wc.heap.size wc V) from (rmay_any m.st wc).mono fun e V h => by
                        rw [hc] at h
                        exact h)
                      clear hc
                      go_wp2_with fail
                      refine HC.out.mono ?_
                      rintro e V ⟨rfl, hb⟩
                      have HS5 := Lib.hid (HS4.out.later hb)
                      clear hb HC x7 x8 x9
                      go_wp2_with fail
                      all_goals (go_returns; exact ⟨by rw [HE.out]; rfl, HS5.out.bel⟩)
                    | true =>
                      have HE := Lib.hid (show m.err = 0 from by rw [HE1.out, hc]; rfl)
                      have HC := Lib.hid (show Calls Tryz.prog 37 #[.agg #[.int .i64 m.st.org, .int .u32 m.st.ep, .int .u32 m.st.sq]] wc (fun e V => e = .returned (.bool true) ∧ Below wc.heap.size wc V) from (rmay_any m.st wc).mono fun e V h => by
                        rw [hc] at h
                        exact h)
                      clear hc
                      go_wp2_with fail
                      refine HC.out.mono ?_
                      rintro e V ⟨rfl, hb⟩
                      have HS5 := Lib.hid (HS4.out.later hb)
                      clear hb HC x7 x8 x9
                      go_wp2_with fail
                      all_goals (go_returns; exact ⟨by rw [HE.out]; rfl, HS5.out.bel⟩)
        have g2 := hk
        have e2 : (m.kd == 2) = false := by simpa using hk
        clear hk
        by_cases hk : m.kd = 3
        · skip
          rw [hk] at x0
          have HE1 := Lib.hid (show m.err = if (z1 && z2 && z4 && z5 && z6 && m.hd.chk) = true then 0 else 2 from by rw [HERR.out]; simp [Ms.isk, hk, and_assoc])
          have x10 : wc.cell? ⟨W.heap.size, 10, none⟩ = some (.int .i64 m.hd.wid) := HS4.out.box.cell rfl
          have x11 : wc.cell? ⟨W.heap.size, 11, none⟩ = some (.int .i64 m.hd.set) := HS4.out.box.cell rfl
          have x12 : wc.cell? ⟨W.heap.size, 12, none⟩ = some (.int .u32 m.hd.ent) := HS4.out.box.cell rfl
          have x13 : wc.cell? ⟨W.heap.size, 13, none⟩ = some (.int .i64 m.hd.hops) := HS4.out.box.cell rfl
          have x14 : wc.cell? ⟨W.heap.size, 14, none⟩ = some (.int .i64 m.hd.src) := HS4.out.box.cell rfl
          have x15 : wc.cell? ⟨W.heap.size, 15, none⟩ = some (.int .i64 m.hd.grp) := HS4.out.box.cell rfl
          have x16 : wc.cell? ⟨W.heap.size, 16, none⟩ = some (.int .u32 m.hd.id) := HS4.out.box.cell rfl
          have x17 : wc.cell? ⟨W.heap.size, 17, none⟩ = some (.int .u64 m.hd.bits.a) := HS4.out.box.cell rfl
          have x18 : wc.cell? ⟨W.heap.size, 18, none⟩ = some (.int .u64 m.hd.bits.b) := HS4.out.box.cell rfl
          have x19 : wc.cell? ⟨W.heap.size, 19, none⟩ = some (.int .u64 m.hd.bits.c) := HS4.out.box.cell rfl
          have x20 : wc.cell? ⟨W.heap.size, 20, none⟩ = some (.int .u64 m.hd.bits.d) := HS4.out.box.cell rfl
          clear hk HERR
          cases z1 with
          | false =>
            have HE := Lib.hid (show m.err = 2 from by rw [HE1.out]; simp)
            go_wp2_with fail
            all_goals (go_returns; exact ⟨by rw [HE.out]; rfl, HS4.out.bel⟩)
          | true =>
            cases z2 with
            | false =>
              have HE := Lib.hid (show m.err = 2 from by rw [HE1.out]; simp)
              go_wp2_with fail
              all_goals (go_returns; exact ⟨by rw [HE.out]; rfl, HS4.out.bel⟩)
            | true =>
              cases z4 with
              | false =>
                have HE := Lib.hid (show m.err = 2 from by rw [HE1.out]; simp)
                go_wp2_with fail
                all_goals (go_returns; exact ⟨by rw [HE.out]; rfl, HS4.out.bel⟩)
              | true =>
                cases z5 with
                | false =>
                  have HE := Lib.hid (show m.err = 2 from by rw [HE1.out]; simp)
                  go_wp2_with fail
                  all_goals (go_returns; exact ⟨by rw [HE.out]; rfl, HS4.out.bel⟩)
                | true =>
                  cases z6 with
                  | false =>
                    have HE := Lib.hid (show m.err = 2 from by rw [HE1.out]; simp)
                    go_wp2_with fail
                    all_goals (go_returns; exact ⟨by rw [HE.out]; rfl, HS4.out.bel⟩)
                  | true =>
                    cases hc : m.hd.chk with
                    | false =>
                      have HE := Lib.hid (show m.err = 2 from by rw [HE1.out, hc]; rfl)
                      have HC := Lib.hid (show Calls Tryz.prog 33 #[.agg #[.int .i64 m.hd.wid, .int .i64 m.hd.set, .int .u32 m.hd.ent, .int .i64 m.hd.hops, .int .i64 m.hd.src, .int .i64 m.hd.grp, .int .u32 m.hd.id, .int .u64 m.hd.bits.a, .int .u64 m.hd.bits.b, .int .u64 m.hd.bits.c, .int .u64 m.hd.bits.d]] wc (fun e V => e = .returned (.int .i64 2) ∧ Below wc.heap.size wc V) from (rhcheck_any m.hd wc HOK.out.2.2.2.1).mono fun e V h => by
                        rw [show m.hd.err = 2 from by unfold Hd.err; rw [hc]; rfl] at h
                        exact h)
                      clear hc
                      go_wp2_with fail
                      refine HC.out.mono ?_
                      rintro e V ⟨rfl, hb⟩
                      have HS5 := Lib.hid (HS4.out.later hb)
                      clear hb HC x10 x11 x12 x13 x14 x15 x16 x17 x18 x19 x20
                      go_wp2_with fail
                      all_goals (go_returns; exact ⟨by rw [HE.out]; rfl, HS5.out.bel⟩)
                    | true =>
                      have HE := Lib.hid (show m.err = 0 from by rw [HE1.out, hc]; rfl)
                      have HC := Lib.hid (show Calls Tryz.prog 33 #[.agg #[.int .i64 m.hd.wid, .int .i64 m.hd.set, .int .u32 m.hd.ent, .int .i64 m.hd.hops, .int .i64 m.hd.src, .int .i64 m.hd.grp, .int .u32 m.hd.id, .int .u64 m.hd.bits.a, .int .u64 m.hd.bits.b, .int .u64 m.hd.bits.c, .int .u64 m.hd.bits.d]] wc (fun e V => e = .returned (.int .i64 0) ∧ Below wc.heap.size wc V) from (rhcheck_any m.hd wc HOK.out.2.2.2.1).mono fun e V h => by
                        rw [show m.hd.err = 0 from by unfold Hd.err; rw [hc]; rfl] at h
                        exact h)
                      clear hc
                      go_wp2_with fail
                      refine HC.out.mono ?_
                      rintro e V ⟨rfl, hb⟩
                      have HS5 := Lib.hid (HS4.out.later hb)
                      clear hb HC x10 x11 x12 x13 x14 x15 x16 x17 x18 x19 x20
                      go_wp2_with fail
                      all_goals (go_returns; exact ⟨by rw [HE.out]; rfl, HS5.out.bel⟩)
        have g3 := hk
        have e3 : (m.kd == 3) = false := by simpa using hk
        clear hk
        by_cases hk : m.kd = 4
        · skip
          rw [hk] at x0
          have HE1 := Lib.hid (show m.err = if (z1 && z2 && z3 && z6 && z7 && m.wi.may) = true then 0 else 2 from by rw [HERR.out]; simp [Ms.isk, hk, and_assoc])
          have x23 : wc.cell? ⟨W.heap.size, 23, none⟩ = some (.int .i64 m.wi.frm) := HS4.out.box.cell rfl
          have x24 : wc.cell? ⟨W.heap.size, 24, none⟩ = some (.int .u32 m.wi.ep) := HS4.out.box.cell rfl
          have x25 : wc.cell? ⟨W.heap.size, 25, none⟩ = some (.int .u32 m.wi.ver) := HS4.out.box.cell rfl
          have x26 : wc.cell? ⟨W.heap.size, 26, none⟩ = some (.int .u8 m.wi.grp) := HS4.out.box.cell rfl
          clear hk HERR
          cases z1 with
          | false =>
            have HE := Lib.hid (show m.err = 2 from by rw [HE1.out]; simp)
            go_wp2_with fail
            all_goals (go_returns; exact ⟨by rw [HE.out]; rfl, HS4.out.bel⟩)
          | true =>
            cases z2 with
            | false =>
              have HE := Lib.hid (show m.err = 2 from by rw [HE1.out]; simp)
              go_wp2_with fail
              all_goals (go_returns; exact ⟨by rw [HE.out]; rfl, HS4.out.bel⟩)
            | true =>
              cases z3 with
              | false =>
                have HE := Lib.hid (show m.err = 2 from by rw [HE1.out]; simp)
                go_wp2_with fail
                all_goals (go_returns; exact ⟨by rw [HE.out]; rfl, HS4.out.bel⟩)
              | true =>
                cases z6 with
                | false =>
                  have HE := Lib.hid (show m.err = 2 from by rw [HE1.out]; simp)
                  go_wp2_with fail
                  all_goals (go_returns; exact ⟨by rw [HE.out]; rfl, HS4.out.bel⟩)
                | true =>
                  cases z7 with
                  | false =>
                    have HE := Lib.hid (show m.err = 2 from by rw [HE1.out]; simp)
                    go_wp2_with fail
                    all_goals (go_returns; exact ⟨by rw [HE.out]; rfl, HS4.out.bel⟩)
                  | true =>
                    cases hc : m.wi.may with
                    | false =>
                      have HE := Lib.hid (show m.err = 2 from by rw [HE1.out, hc]; rfl)
                      have HC := Lib.hid (show Calls Tryz.prog 38 #[.agg #[.int .i64 m.wi.frm, .int .u32 m.wi.ep, .int .u32 m.wi.ver, .int .u8 m.wi.grp]] wc (fun e V => e = .returned (.bool false) ∧ Below wc.heap.size wc V) from (maywish_any m.wi wc).mono fun e V h => by
                        rw [hc] at h
                        exact h)
                      clear hc
                      go_wp2_with fail
                      refine HC.out.mono ?_
                      rintro e V ⟨rfl, hb⟩
                      have HS5 := Lib.hid (HS4.out.later hb)
                      clear hb HC x23 x24 x25 x26
                      go_wp2_with fail
                      all_goals (go_returns; exact ⟨by rw [HE.out]; rfl, HS5.out.bel⟩)
                    | true =>
                      have HE := Lib.hid (show m.err = 0 from by rw [HE1.out, hc]; rfl)
                      have HC := Lib.hid (show Calls Tryz.prog 38 #[.agg #[.int .i64 m.wi.frm, .int .u32 m.wi.ep, .int .u32 m.wi.ver, .int .u8 m.wi.grp]] wc (fun e V => e = .returned (.bool true) ∧ Below wc.heap.size wc V) from (maywish_any m.wi wc).mono fun e V h => by
                        rw [hc] at h
                        exact h)
                      clear hc
                      go_wp2_with fail
                      refine HC.out.mono ?_
                      rintro e V ⟨rfl, hb⟩
                      have HS5 := Lib.hid (HS4.out.later hb)
                      clear hb HC x23 x24 x25 x26
                      go_wp2_with fail
                      all_goals (go_returns; exact ⟨by rw [HE.out]; rfl, HS5.out.bel⟩)
        have g4 := hk
        have e4 : (m.kd == 4) = false := by simpa using hk
        clear hk
        by_cases hk : m.kd = 5
        · skip
          rw [hk] at x0
          have HE1 := Lib.hid (show m.err = if (z1 && z2 && z3 && z5 && z7 && m.ak.may) = true then 0 else 2 from by rw [HERR.out]; simp [Ms.isk, hk, and_assoc])
          have x27 : wc.cell? ⟨W.heap.size, 27, none⟩ = some (.int .i64 m.ak.frm) := HS4.out.box.cell rfl
          have x28 : wc.cell? ⟨W.heap.size, 28, none⟩ = some (.int .u32 m.ak.ep) := HS4.out.box.cell rfl
          have x29 : wc.cell? ⟨W.heap.size, 29, none⟩ = some (.int .i64 m.ak.dst) := HS4.out.box.cell rfl
          have x30 : wc.cell? ⟨W.heap.size, 30, none⟩ = some (.int .u32 m.ak.lif) := HS4.out.box.cell rfl
          have x31 : wc.cell? ⟨W.heap.size, 31, none⟩ = some (.int .u32 m.ak.ver) := HS4.out.box.cell rfl
          clear hk HERR
          cases z1 with
          | false =>
            have HE := Lib.hid (show m.err = 2 from by rw [HE1.out]; simp)
            go_wp2_with fail
            all_goals (go_returns; exact ⟨by rw [HE.out]; rfl, HS4.out.bel⟩)
          | true =>
            cases z2 with
            | false =>
              have HE := Lib.hid (show m.err = 2 from by rw [HE1.out]; simp)
              go_wp2_with fail
              all_goals (go_returns; exact ⟨by rw [HE.out]; rfl, HS4.out.bel⟩)
            | true =>
              cases z3 with
              | false =>
                have HE := Lib.hid (show m.err = 2 from by rw [HE1.out]; simp)
                go_wp2_with fail
                all_goals (go_returns; exact ⟨by rw [HE.out]; rfl, HS4.out.bel⟩)
              | true =>
                cases z5 with
                | false =>
                  have HE := Lib.hid (show m.err = 2 from by rw [HE1.out]; simp)
                  go_wp2_with fail
                  all_goals (go_returns; exact ⟨by rw [HE.out]; rfl, HS4.out.bel⟩)
                | true =>
                  cases z7 with
                  | false =>
                    have HE := Lib.hid (show m.err = 2 from by rw [HE1.out]; simp)
                    go_wp2_with fail
                    all_goals (go_returns; exact ⟨by rw [HE.out]; rfl, HS4.out.bel⟩)
                  | true =>
                    cases hc : m.ak.may with
                    | false =>
                      have HE := Lib.hid (show m.err = 2 from by rw [HE1.out, hc]; rfl)
                      have HC := Lib.hid (show Calls Tryz.prog 39 #[.agg #[.int .i64 m.ak.frm, .int .u32 m.ak.ep, .int .i64 m.ak.dst, .int .u32 m.ak.lif, .int .u32 m.ak.ver]] wc (fun e V => e = .returned (.bool false) ∧ Below wc.heap.size wc V) from (mayack_any m.ak wc).mono fun e V h => by
                        rw [hc] at h
                        exact h)
                      clear hc
                      go_wp2_with fail
                      refine HC.out.mono ?_
                      rintro e V ⟨rfl, hb⟩
                      have HS5 := Lib.hid (HS4.out.later hb)
                      clear hb HC x27 x28 x29 x30 x31
                      go_wp2_with fail
                      all_goals (go_returns; exact ⟨by rw [HE.out]; rfl, HS5.out.bel⟩)
                    | true =>
                      have HE := Lib.hid (show m.err = 0 from by rw [HE1.out, hc]; rfl)
                      have HC := Lib.hid (show Calls Tryz.prog 39 #[.agg #[.int .i64 m.ak.frm, .int .u32 m.ak.ep, .int .i64 m.ak.dst, .int .u32 m.ak.lif, .int .u32 m.ak.ver]] wc (fun e V => e = .returned (.bool true) ∧ Below wc.heap.size wc V) from (mayack_any m.ak wc).mono fun e V h => by
                        rw [hc] at h
                        exact h)
                      clear hc
                      go_wp2_with fail
                      refine HC.out.mono ?_
                      rintro e V ⟨rfl, hb⟩
                      have HS5 := Lib.hid (HS4.out.later hb)
                      clear hb HC x27 x28 x29 x30 x31
                      go_wp2_with fail
                      all_goals (go_returns; exact ⟨by rw [HE.out]; rfl, HS5.out.bel⟩)
        have g5 := hk
        have e5 : (m.kd == 5) = false := by simpa using hk
        clear hk
        have HE := Lib.hid (show m.err = 2 from by
          rw [HERR.out, show m.isk = false from by unfold Ms.isk; rw [Bool.and_eq_false_iff, decide_eq_false_iff_not, decide_eq_false_iff_not]; omega]
          rfl)
        clear g1 g2 g3 g4 g5 HERR
        go_wp2_with fail
        all_goals (go_returns; exact ⟨by rw [HE.out]; rfl, HS4.out.bel⟩)

end Go.Proofs.YtickjmkkgcfkhaaGreat
