/- Contracts of the record: stamps, which is newer. -/
import Derived.Test.YtcdmmplmkgdejaaRecB
set_option linter.unusedSimpArgs false
set_option linter.unusedVariables false
namespace Go.Proofs.Ytcdmmplmkgdejaa
open Go.RowKit Go.ChangeShapes Go.WideShapes

/-- A stamp. -/
structure St where
  org : Int
  ep : Nat
  sq : Nat
deriving DecidableEq, Inhabited
def St.cs (s : St) : Array Value := #[.int .i64 s.org, .int .u32 s.ep, .int .u32 s.sq]
def St.ag (s : St) : Value := .agg s.cs
def St.ok (s : St) : Prop := (-9223372036854775808 ≤ s.org ∧ s.org ≤ 9223372036854775807) ∧ s.ep < 4294967296 ∧ s.sq < 4294967296
def Rc.st (r : Rc) : St := ⟨r.org, r.ep, r.sq⟩
def St.may (s : St) : Bool := rtr s.org && decide (0 < s.ep) && decide (0 < s.sq)
def BoxS (b : Nat) (s : St) (V : World) : Prop := V.heap[b]? = some (.cells s.cs 39 (0, 0))
theorem BoxS.later {b : Nat} {s : St} {V X : World} (h : BoxS b s V) (hb : Below V.heap.size V X) : BoxS b s X := (hb.block b (Array.getElem?_eq_some_iff.1 h).1).trans h
theorem BoxS.cells {b : Nat} {s : St} {V : World} (h : BoxS b s V) : V.cell? ⟨b, 0, none⟩ = some (.int .i64 s.org) ∧ V.cell? ⟨b, 1, none⟩ = some (.int .u32 s.ep) ∧ V.cell? ⟨b, 2, none⟩ = some (.int .u32 s.sq) :=
  ⟨cell_of_row _ _ 0 _ _ _ h, cell_of_row _ _ 1 _ _ _ h, cell_of_row _ _ 2 _ _ _ h⟩

theorem stamp_any (r : Rc) (sa : Option Addr) (sc : Nat) (W : World) : Calls Try.prog 20 #[r.ag sa sc] W fun e W' => e = .returned r.st.ag ∧ Below W.heap.size W W' := by
  go_enter Try.func20, Try.ntmps20
  unfold Rc.ag Rc.cs
  go_wp2_with fail
  (try simp only [Exit.inBlock, Exit.then])
  refine bodyPost_ret (v := r.st.ag) ?_ rfl ⟨rfl, ?_⟩
  · simp only [results, Try.results20]
    go_simp
    rfl
  · exact ((Below.refl _ _).alloc (Nat.le_refl _) _).alloc (by rw [World.size_alloc]; omega) _
theorem rstamp_any (r : Rc) (sa : Option Addr) (sc : Nat) (W : World) : Calls Try.prog 21 #[r.ag sa sc] W fun e W' => e = .returned r.st.ag ∧ Below W.heap.size W W' := by
  go_enter Try.func21, Try.ntmps21
  unfold Rc.ag Rc.cs
  go_wp2_with fail
  (try simp only [Exit.inBlock, Exit.then])
  refine bodyPost_ret (v := r.st.ag) ?_ rfl ⟨rfl, ?_⟩
  · simp only [results, Try.results21]
    go_simp
    rfl
  · exact ((Below.refl _ _).alloc (Nat.le_refl _) _).alloc (by rw [World.size_alloc]; omega) _
theorem may_any (s : St) (W : World) : Calls Try.prog 36 #[s.ag] W fun e W' => e = .returned (.bool s.may) ∧ Below W.heap.size W W' := by
  obtain ⟨W1, hW1⟩ : ∃ W1, W1 = W.alloc (.cells s.cs 39) := ⟨_, rfl⟩
  have hb1 : Below W.heap.size W W1 := by rw [hW1]; exact (Below.refl _ _).alloc (Nat.le_refl _) _
  obtain ⟨x0, x1, x2⟩ := BoxS.cells (b := W.heap.size) (s := s) (V := W1) (by rw [hW1]; exact heap_alloc_new _ _)
  have HW1 := Lib.hid hW1
  have HB1 := Lib.hid hb1
  have hc : (rtr s.org = false ∧ s.may = false) ∨ (rtr s.org = true ∧ ¬ 0 < s.ep ∧ s.may = false) ∨ (rtr s.org = true ∧ 0 < s.ep ∧ ¬ 0 < s.sq ∧ s.may = false) ∨ (rtr s.org = true ∧ 0 < s.ep ∧ 0 < s.sq ∧ s.may = true) := by
    unfold St.may
    cases rtr s.org
    · simp
    · by_cases h1 : 0 < s.ep
      · by_cases h2 : 0 < s.sq
        · simp [h1, h2]
        · simp [h1, h2]
      · simp [h1]
  clear hW1 hb1
  rcases hc with ⟨h1, he⟩ | ⟨h1, h2, he⟩ | ⟨h1, h2, h3, he⟩ | ⟨h1, h2, h3, he⟩
  · have H1 := Lib.hid h1
    have HE := Lib.hid he
    clear h1 he
    go_enter Try.func36, Try.ntmps36
    unfold St.ag St.cs at *
    go_wp2_with fail
    rw [← HW1.out]
    refine (rtr_any _ _).mono ?_
    rintro e w ⟨rfl, rfl⟩
    rw [H1.out]
    go_wp2_with fail
    go_returns
    exact ⟨by rw [HE.out]; rfl, HB1.out⟩
  · have H1 := Lib.hid h1
    have HE := Lib.hid he
    have d2 : decide (0 < s.ep) = false := decide_eq_false h2
    clear h1 he
    go_enter Try.func36, Try.ntmps36
    unfold St.ag St.cs at *
    go_wp2_with fail
    rw [← HW1.out]
    refine (rtr_any _ _).mono ?_
    rintro e w ⟨rfl, rfl⟩
    rw [H1.out]
    go_wp2_with fail
    go_returns
    exact ⟨by rw [HE.out]; rfl, HB1.out⟩
  · have H1 := Lib.hid h1
    have HE := Lib.hid he
    have d2 : decide (0 < s.ep) = true := decide_eq_true h2
    have d3 : decide (0 < s.sq) = false := decide_eq_false h3
    clear h1 he
    go_enter Try.func36, Try.ntmps36
    unfold St.ag St.cs at *
    go_wp2_with fail
    rw [← HW1.out]
    refine (rtr_any _ _).mono ?_
    rintro e w ⟨rfl, rfl⟩
    rw [H1.out]
    go_wp2_with fail
    go_returns
    exact ⟨by rw [HE.out]; rfl, HB1.out⟩
  · have H1 := Lib.hid h1
    have HE := Lib.hid he
    have d2 : decide (0 < s.ep) = true := decide_eq_true h2
    have d3 : decide (0 < s.sq) = true := decide_eq_true h3
    clear h1 he
    go_enter Try.func36, Try.ntmps36
    unfold St.ag St.cs at *
    go_wp2_with fail
    rw [← HW1.out]
    refine (rtr_any _ _).mono ?_
    rintro e w ⟨rfl, rfl⟩
    rw [H1.out]
    go_wp2_with fail
    go_returns
    exact ⟨by rw [HE.out]; rfl, HB1.out⟩
theorem rmay_any (s : St) (W : World) : Calls Try.prog 39 #[s.ag] W fun e W' => e = .returned (.bool s.may) ∧ Below W.heap.size W W' := by
  obtain ⟨W1, hW1⟩ : ∃ W1, W1 = W.alloc (.cells s.cs 39) := ⟨_, rfl⟩
  have hb1 : Below W.heap.size W W1 := by rw [hW1]; exact (Below.refl _ _).alloc (Nat.le_refl _) _
  obtain ⟨x0, x1, x2⟩ := BoxS.cells (b := W.heap.size) (s := s) (V := W1) (by rw [hW1]; exact heap_alloc_new _ _)
  have HW1 := Lib.hid hW1
  have HB1 := Lib.hid hb1
  have hc : (rtr s.org = false ∧ s.may = false) ∨ (rtr s.org = true ∧ ¬ 0 < s.ep ∧ s.may = false) ∨ (rtr s.org = true ∧ 0 < s.ep ∧ ¬ 0 < s.sq ∧ s.may = false) ∨ (rtr s.org = true ∧ 0 < s.ep ∧ 0 < s.sq ∧ s.may = true) := by
    unfold St.may
    cases rtr s.org
    · simp
    · by_cases h1 : 0 < s.ep
      · by_cases h2 : 0 < s.sq
        · simp [h1, h2]
        · simp [h1, h2]
      · simp [h1]
  clear hW1 hb1
  rcases hc with ⟨h1, he⟩ | ⟨h1, h2, he⟩ | ⟨h1, h2, h3, he⟩ | ⟨h1, h2, h3, he⟩
  · have H1 := Lib.hid h1
    have HE := Lib.hid he
    clear h1 he
    go_enter Try.func39, Try.ntmps39
    unfold St.ag St.cs at *
    go_wp2_with fail
    rw [← HW1.out]
    refine (rrtr_any _ _).mono ?_
    rintro e w ⟨rfl, rfl⟩
    rw [H1.out]
    go_wp2_with fail
    go_returns
    exact ⟨by rw [HE.out]; rfl, HB1.out⟩
  · have H1 := Lib.hid h1
    have HE := Lib.hid he
    have d2 : decide (0 < s.ep) = false := decide_eq_false h2
    clear h1 he
    go_enter Try.func39, Try.ntmps39
    unfold St.ag St.cs at *
    go_wp2_with fail
    rw [← HW1.out]
    refine (rrtr_any _ _).mono ?_
    rintro e w ⟨rfl, rfl⟩
    rw [H1.out]
    go_wp2_with fail
    go_returns
    exact ⟨by rw [HE.out]; rfl, HB1.out⟩
  · have H1 := Lib.hid h1
    have HE := Lib.hid he
    have d2 : decide (0 < s.ep) = true := decide_eq_true h2
    have d3 : decide (0 < s.sq) = false := decide_eq_false h3
    clear h1 he
    go_enter Try.func39, Try.ntmps39
    unfold St.ag St.cs at *
    go_wp2_with fail
    rw [← HW1.out]
    refine (rrtr_any _ _).mono ?_
    rintro e w ⟨rfl, rfl⟩
    rw [H1.out]
    go_wp2_with fail
    go_returns
    exact ⟨by rw [HE.out]; rfl, HB1.out⟩
  · have H1 := Lib.hid h1
    have HE := Lib.hid he
    have d2 : decide (0 < s.ep) = true := decide_eq_true h2
    have d3 : decide (0 < s.sq) = true := decide_eq_true h3
    clear h1 he
    go_enter Try.func39, Try.ntmps39
    unfold St.ag St.cs at *
    go_wp2_with fail
    rw [← HW1.out]
    refine (rrtr_any _ _).mono ?_
    rintro e w ⟨rfl, rfl⟩
    rw [H1.out]
    go_wp2_with fail
    go_returns
    exact ⟨by rw [HE.out]; rfl, HB1.out⟩
/-- Which is newer. -/
def cmpN (x y : Nat) : Int := if x < y then -1 else if y < x then 1 else 0
def orI (x y : Int) : Int := if x ≠ 0 then x else y
def nw (a b : St) : Int := orI (cmpN a.ep b.ep) (cmpN a.sq b.sq)
theorem nan_any (x : Nat) (W : World) : Calls Try.prog 48 #[.int .u32 x] W fun e W' => e = .returned (.bool false) ∧ W = W' := by
  go_enter Try.func48, Try.ntmps48
  go_wp2_with fail
  go_returns
  exact ⟨rfl, rfl⟩
theorem cmp_any (x y : Nat) (W : World) : Calls Try.prog 38 #[.int .u32 x, .int .u32 y] W fun e W' => e = .returned (.int .i64 (cmpN x y)) ∧ W = W' := by
  have h : (x < y ∧ cmpN x y = -1) ∨ (¬ x < y ∧ y < x ∧ cmpN x y = 1) ∨ (¬ x < y ∧ ¬ y < x ∧ cmpN x y = 0) := by
    unfold cmpN
    by_cases h1 : x < y
    · exact .inl ⟨h1, if_pos h1⟩
    · by_cases h2 : y < x
      · exact .inr (.inl ⟨h1, h2, by rw [if_neg h1, if_pos h2]⟩)
      · exact .inr (.inr ⟨h1, h2, by rw [if_neg h1, if_neg h2]⟩)
  rcases h with ⟨h1, he⟩ | ⟨h1, h2, he⟩ | ⟨h1, h2, he⟩
  · have HE := Lib.hid he
    have d1 : decide (x < y) = true := decide_eq_true h1
    clear he
    go_enter Try.func38, Try.ntmps38
    go_wp2_with (go_at_call 48; refine (nan_any _ _).mono ?_; rintro e w ⟨rfl, rfl⟩)
    go_returns
    exact ⟨by rw [HE.out]; rfl, rfl⟩
  · have HE := Lib.hid he
    have d1 : decide (x < y) = false := decide_eq_false h1
    have d2 : decide (y < x) = true := decide_eq_true h2
    clear he
    go_enter Try.func38, Try.ntmps38
    go_wp2_with (go_at_call 48; refine (nan_any _ _).mono ?_; rintro e w ⟨rfl, rfl⟩)
    go_returns
    exact ⟨by rw [HE.out]; rfl, rfl⟩
  · have HE := Lib.hid he
    have d1 : decide (x < y) = false := decide_eq_false h1
    have d2 : decide (y < x) = false := decide_eq_false h2
    clear he
    go_enter Try.func38, Try.ntmps38
    go_wp2_with (go_at_call 48; refine (nan_any _ _).mono ?_; rintro e w ⟨rfl, rfl⟩)
    go_returns
    exact ⟨by rw [HE.out]; rfl, rfl⟩

def OrRel (W : World) (x y : Int) (i : Value) (wr : World) : Prop := wr = W ∧ ∃ k : Nat, i = .int .i64 k ∧ k ≤ 2 ∧ (1 ≤ k → x = 0) ∧ (2 ≤ k → y = 0)
theorem or_any (g : Nat) (x y : Int) (t : TypeId) (W : World) (hg : W.heap[g]? = some (.cells #[.int .i64 x, .int .i64 y] t (0, 0))) :
    Calls Try.prog 37 #[.slice (some ⟨g, 0, none⟩) 2 2] W fun e W' => e = .returned (.int .i64 (orI x y)) ∧ Below W.heap.size W W' := by
  have c0 : W.cell? ⟨g, 0, none⟩ = some (.int .i64 x) := cell_of_row _ _ 0 _ _ _ hg
  have c1 : W.cell? ⟨g, 1, none⟩ = some (.int .i64 y) := cell_of_row _ _ 1 _ _ _ hg
  clear hg
  go_enter Try.func37, Try.ntmps37
  go_wp2_with fail
  go_loopw [8] (fun i wr => OrRel W x y i wr) (fun i _ => 2 - (intOf i).toNat)
  case atStart => exact ⟨rfl, 0, rfl, by omega, by omega, by omega⟩
  case round =>
    obtain ⟨rfl, k, rfl, hk, hx, hy⟩ := hrel
    obtain rfl | rfl | rfl : k = 0 ∨ k = 1 ∨ k = 2 := by omega
    · by_cases h0 : x = 0
      · have HR := Lib.hid (show OrRel wr x y (.int .i64 1) wr from ⟨rfl, 1, rfl, by omega, fun _ => h0, by omega⟩)
        have e0 : (x == 0) = true := by rw [beq_iff_eq]; exact h0
        clear h0 hx hy
        go_wp2_with fail
        go_roundw
        case rel => first | exact HR.out | ((repeat apply Exists.intro); exact ⟨HR.out, rfl⟩)
        case measure => simp [intOf]
      · have e0 : (x == 0) = false := by rw [beq_eq_false_iff_ne]; exact h0
        have HE := Lib.hid (show orI x y = x from if_pos h0)
        clear h0 hx hy
        go_wp2_with fail
        go_returns
        exact ⟨by rw [HE.out]; rfl, Below.refl _ _⟩
    · have h0 := hx (by omega)
      by_cases h1 : y = 0
      · have HR := Lib.hid (show OrRel wr x y (.int .i64 2) wr from ⟨rfl, 2, rfl, by omega, fun _ => h0, fun _ => h1⟩)
        have e0 : (y == 0) = true := by rw [beq_iff_eq]; exact h1
        clear h0 h1 hx hy
        go_wp2_with fail
        go_roundw
        case rel => first | exact HR.out | ((repeat apply Exists.intro); exact ⟨HR.out, rfl⟩)
        case measure => simp [intOf]
      · have e0 : (y == 0) = false := by rw [beq_eq_false_iff_ne]; exact h1
        have HE := Lib.hid (show orI x y = y from if_neg (by rw [h0]; simp))
        clear h0 h1 hx hy
        go_wp2_with fail
        go_returns
        exact ⟨by rw [HE.out]; rfl, Below.refl _ _⟩
    · have HE := Lib.hid (show orI x y = 0 by unfold orI; rw [hx (by omega), hy (by omega)]; rfl)
      clear hx hy
      go_wp2_with fail
      go_returns
      exact ⟨by rw [HE.out]; rfl, Below.refl _ _⟩

structure NwS (W : World) (a b : St) (V : World) : Prop where
  b0 : BoxS W.heap.size a V
  b1 : BoxS (W.heap.size + 1) b V
  bel : Below W.heap.size W V
theorem NwS.later {W V X : World} {a b : St} (h : NwS W a b V) (hb : Below V.heap.size V X) : NwS W a b X := ⟨h.b0.later hb, h.b1.later hb, h.bel.trans (hb.mono h.bel.size)⟩
set_option maxHeartbeats 1600000 in
theorem newer_any (a b : St) (W : World) : Calls Try.prog 25 #[a.ag, b.ag] W fun e W' => e = .returned (.int .i64 (nw a b)) ∧ Below W.heap.size W W' := by
  obtain ⟨W1, hW1⟩ : ∃ W1, W1 = (W.alloc (.cells a.cs 39)).alloc (.cells b.cs 39) := ⟨_, rfl⟩
  have hb1 : Below W.heap.size W W1 := by rw [hW1]; exact ((Below.refl _ _).alloc (Nat.le_refl _) _).alloc (by rw [World.size_alloc]; omega) _
  have HS := Lib.hid (show NwS W a b W1.drew from ⟨by rw [hW1]; exact heap_alloc2_old _ _ _, by rw [hW1]; exact heap_alloc2_new _ _ _, hb1.trans ⟨rfl, rfl, rfl, Nat.le_refl _, fun _ _ => rfl⟩⟩)
  have HW1 := Lib.hid hW1
  clear hW1 hb1
  go_enter Try.func25, Try.ntmps25
  unfold St.ag St.cs at *
  go_wp2_with fail
  rw [← HW1.out]
  obtain ⟨U, hU⟩ : ∃ U, U = W1.drew := ⟨_, rfl⟩
  rw [← hU] at HS
  refine wp_region_ord [(0, true), (1, true), (2, true), (3, true), (5, true), (6, true), (7, true), (8, true), (4, false), (9, false), (10, false), (11, false), (12, true)] (NwS W a b) (by kernel_rfl) (by kernel_rfl) (by decide) (by kernel_rfl) (fun d _ _ _ _ h => by cases d <;> exact h) (by rw [← hU]; exact HS.out) ?_
  rw [← hU]
  clear hU
  iterate 8 ((apply wpOrd_take rfl rfl (by kernel_rfl); (intro V hV; obtain ⟨x0, x1, x2⟩ := BoxS.cells hV.b0; obtain ⟨y0, y1, y2⟩ := BoxS.cells hV.b1; go_simp; rfl)); (try simp only [List.setIfInBounds_toArray, List.set_cons_succ, List.set_cons_zero]))
  apply wpOrd_do rfl (by kernel_rfl)
  intro K hK
  go_simp
  refine (cmp_any _ _ _).mono ?_
  rintro e w ⟨rfl, rfl⟩
  refine hK _ _ HS.out ?_
  clear hK K
  apply wpOrd_do rfl (by kernel_rfl)
  intro K hK
  go_simp
  refine (cmp_any _ _ _).mono ?_
  rintro e w ⟨rfl, rfl⟩
  refine hK _ _ HS.out ?_
  clear hK K
  apply wpOrd_do rfl (by kernel_rfl)
  intro K hK
  go_simp
  obtain ⟨X, hX⟩ : ∃ X, X = U.alloc (.cells #[.int .i64 (cmpN a.ep b.ep), .int .i64 (cmpN a.sq b.sq)] 3) := ⟨_, rfl⟩
  have hbX : Below U.heap.size U X := by rw [hX]; exact (Below.refl _ _).alloc (Nat.le_refl _) _
  have HSX := Lib.hid (HS.out.later hbX)
  have hrow : X.heap[U.heap.size]? = some (.cells #[.int .i64 (cmpN a.ep b.ep), .int .i64 (cmpN a.sq b.sq)] 3 (0, 0)) := by rw [hX]; exact heap_alloc_new _ _
  have HO := Lib.hid (or_any U.heap.size _ _ _ X hrow)
  have HX := Lib.hid hX
  clear hX hbX hrow
  rw [← HX.out]
  refine hK _ _ HSX.out ?_
  clear hK K
  apply wpOrd_do rfl (by kernel_rfl)
  intro K hK
  go_simp
  refine HO.out.mono ?_
  rintro e V ⟨rfl, hb⟩
  have HSV := Lib.hid (HSX.out.later hb)
  refine hK _ _ HSV.out ?_
  clear hK K hb
  apply wpOrd_take rfl rfl (by kernel_rfl)
  · intro V _; go_simp; rfl
  (try simp only [List.setIfInBounds_toArray, List.set_cons_succ, List.set_cons_zero])
  refine wpOrd_nil ?_
  go_wp2_with fail
  go_returns
  exact ⟨rfl, HSV.out.bel⟩

theorem nw_ref (a b : St) (ha : a.ok) (hb : b.ok) : nw a b = if a.ep * 4294967296 + a.sq < b.ep * 4294967296 + b.sq then -1 else if b.ep * 4294967296 + b.sq < a.ep * 4294967296 + a.sq then 1 else 0 := by
  obtain ⟨_, a1, a2⟩ := ha
  obtain ⟨_, b1, b2⟩ := hb
  unfold nw orI cmpN
  by_cases h1 : a.ep < b.ep
  · simp [h1, show a.ep * 4294967296 + a.sq < b.ep * 4294967296 + b.sq from by omega]
  · by_cases h2 : b.ep < a.ep
    · simp [h1, h2, show ¬ a.ep * 4294967296 + a.sq < b.ep * 4294967296 + b.sq from by omega, show b.ep * 4294967296 + b.sq < a.ep * 4294967296 + a.sq from by omega]
    · have h3 : a.ep = b.ep := by omega
      rw [h3]
      simp
theorem rnewer_any (a b : St) (W : World) (ha : a.ok) (hb : b.ok) : Calls Try.prog 28 #[a.ag, b.ag] W fun e W' => e = .returned (.int .i64 (nw a b)) ∧ Below W.heap.size W W' := by
  have HR := Lib.hid (nw_ref a b ha hb)
  obtain ⟨_, a1, a2⟩ := ha
  obtain ⟨_, b1, b2⟩ := hb
  obtain ⟨x, hx⟩ : ∃ x : Nat, x = a.ep * 4294967296 + a.sq := ⟨_, rfl⟩
  obtain ⟨y, hy⟩ : ∃ y : Nat, y = b.ep * 4294967296 + b.sq := ⟨_, rfl⟩
  have ex : ((a.ep : Int) * 4294967296 + (a.sq : Int)) = (x : Int) := by omega
  have ey : ((b.ep : Int) * 4294967296 + (b.sq : Int)) = (y : Int) := by omega
  have hxy : (x < y ∧ nw a b = -1) ∨ (¬ x < y ∧ y < x ∧ nw a b = 1) ∨ (¬ x < y ∧ ¬ y < x ∧ nw a b = 0) := by
    rw [HR.out, ← hx, ← hy]
    by_cases h1 : x < y
    · exact .inl ⟨h1, if_pos h1⟩
    · by_cases h2 : y < x
      · exact .inr (.inl ⟨h1, h2, by rw [if_neg h1, if_pos h2]⟩)
      · exact .inr (.inr ⟨h1, h2, by rw [if_neg h1, if_neg h2]⟩)
  clear hx hy
  rcases hxy with ⟨h1, he⟩ | ⟨h1, h2, he⟩ | ⟨h1, h2, he⟩
  · have HE := Lib.hid he
    have d1 : decide (x < y) = true := decide_eq_true h1
    clear he
    go_enter Try.func28, Try.ntmps28
    unfold St.ag St.cs at *
    go_wp2_with fail
    go_returns
    exact ⟨by rw [HE.out]; rfl, ((Below.refl _ _).alloc (Nat.le_refl _) _).alloc (by rw [World.size_alloc]; omega) _⟩
  · have HE := Lib.hid he
    have d1 : decide (x < y) = false := decide_eq_false h1
    have d2 : decide (y < x) = true := decide_eq_true h2
    clear he
    go_enter Try.func28, Try.ntmps28
    unfold St.ag St.cs at *
    go_wp2_with fail
    go_returns
    exact ⟨by rw [HE.out]; rfl, ((Below.refl _ _).alloc (Nat.le_refl _) _).alloc (by rw [World.size_alloc]; omega) _⟩
  · have HE := Lib.hid he
    have d1 : decide (x < y) = false := decide_eq_false h1
    have d2 : decide (y < x) = false := decide_eq_false h2
    clear he
    go_enter Try.func28, Try.ntmps28
    unfold St.ag St.cs at *
    go_wp2_with fail
    go_returns
    exact ⟨by rw [HE.out]; rfl, ((Below.refl _ _).alloc (Nat.le_refl _) _).alloc (by rw [World.size_alloc]; omega) _⟩

end Go.Proofs.Ytcdmmplmkgdejaa
