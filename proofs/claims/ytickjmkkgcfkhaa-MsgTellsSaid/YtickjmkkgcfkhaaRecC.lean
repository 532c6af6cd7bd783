import Derived.Test.YtickjmkkgcfkhaaRecA
/- Contracts of the reference's record: may it be. -/
set_option linter.unusedSimpArgs false
set_option linter.unusedVariables false
set_option maxRecDepth 100000
namespace Go.Proofs.Ytickjmkkgcfkhaa
open Go.RowKit Go.ChangeShapes Go.WideShapes

def BoxA (b : Nat) (a : Int × Int) (V : World) : Prop := V.heap[b]? = some (.cells #[.int .i64 a.1, .int .i64 a.2] 81 (0, 0))
theorem BoxA.cells {b : Nat} {a : Int × Int} {V : World} (h : BoxA b a V) : V.cell? ⟨b, 0, none⟩ = some (.int .i64 a.1) ∧ V.cell? ⟨b, 1, none⟩ = some (.int .i64 a.2) := ⟨cell_of_row _ _ 0 _ _ _ h, cell_of_row _ _ 1 _ _ _ h⟩
structure RcS (W : World) (r : Rc) (sa : Option Addr) (sc : Nat) (q : Nat) (a : Int × Int) (V : World) : Prop where
  box : BoxR W.heap.size r sa sc V
  el : BoxA q a V
  bel : Below W.heap.size W V
def RChkRel (W : World) (r : Rc) (sa : Option Addr) (sc : Nat) (i : Value) (wr : World) : Prop :=
  ∃ (k : Nat) (z : Int), i = .int .i64 k ∧ k ≤ r.adjs.length ∧ ((k = 0 ∧ z = 0) ∨ (0 < k ∧ z = (r.adjs.getD (k - 1) default).1)) ∧ chkA r.org 0 r.adjs = chkA r.org z (r.adjs.drop k) ∧ BoxR W.heap.size r sa sc wr ∧ Below W.heap.size W wr

end Go.Proofs.Ytickjmkkgcfkhaa

/- Contracts of the record: stamps, which is newer. -/
set_option linter.unusedSimpArgs false
set_option linter.unusedVariables false
set_option maxRecDepth 100000
namespace Go.Proofs.Ytickjmkkgcfkhaa
open Go.RowKit Go.ChangeShapes Go.WideShapes

/-- A stamp. -/
structure St where
  org : Int
  ep : Nat
  sq : Nat
deriving DecidableEq, Inhabited
def St.cs (s : St) : Array Value := #[.int .i64 s.org, .int .u32 s.ep, .int .u32 s.sq]
def St.ag (s : St) : Value := .agg s.cs
def St.ok (s : St) : Prop := (-9223372036854775808 ≤ s.org ∧ s.org ≤ 9223372036854775807) ∧ s.ep < 4294967296 ∧ s.sq < 4294967296
def Rc.st (r : Rc) : St := ⟨r.org, r.ep, r.sq⟩
def St.may (s : St) : Bool := rtr s.org && decide (0 < s.ep) && decide (0 < s.sq)
def BoxS (b : Nat) (s : St) (V : World) : Prop := V.heap[b]? = some (.cells s.cs 27 (0, 0))
theorem BoxS.later {b : Nat} {s : St} {V X : World} (h : BoxS b s V) (hb : Below V.heap.size V X) : BoxS b s X := (hb.block b (Array.getElem?_eq_some_iff.1 h).1).trans h
theorem BoxS.cells {b : Nat} {s : St} {V : World} (h : BoxS b s V) : V.cell? ⟨b, 0, none⟩ = some (.int .i64 s.org) ∧ V.cell? ⟨b, 1, none⟩ = some (.int .u32 s.ep) ∧ V.cell? ⟨b, 2, none⟩ = some (.int .u32 s.sq) :=
  ⟨cell_of_row _ _ 0 _ _ _ h, cell_of_row _ _ 1 _ _ _ h, cell_of_row _ _ 2 _ _ _ h⟩

theorem stamp_any (r : Rc) (sa : Option Addr) (sc : Nat) (W : World) : Calls Try.prog 51 #[r.ag sa sc] W fun e W' => e = .returned r.st.ag ∧ Below W.heap.size W W' := by
  go_enter Try.func51, Try.ntmps51
  unfold Rc.ag Rc.cs
  go_wp2_with fail
  (try simp only [Exit.inBlock, Exit.then])
  refine bodyPost_ret (v := r.st.ag) ?_ rfl ⟨rfl, ?_⟩
  · simp only [results, Try.results51]
    go_simp
    rfl
  · exact ((Below.refl _ _).alloc (Nat.le_refl _) _).alloc (by rw [World.size_alloc]; omega) _
theorem may_any (s : St) (W : World) : Calls Try.prog 85 #[s.ag] W fun e W' => e = .returned (.bool s.may) ∧ Below W.heap.size W W' := by
  obtain ⟨W1, hW1⟩ : ∃ W1, W1 = W.alloc (.cells s.cs 27) := ⟨_, rfl⟩
  have hb1 : Below W.heap.size W W1 := by rw [hW1]; exact (Below.refl _ _).alloc (Nat.le_refl _) _
  obtain ⟨x0, x1, x2⟩ := BoxS.cells (b := W.heap.size) (s := s) (V := W1) (by rw [hW1]; exact heap_alloc_new _ _)
  have HW1 := Lib.hid hW1
  have HB1 := Lib.hid hb1
  have hc : (rtr s.org = false ∧ s.may = false) ∨ (rtr s.org = true ∧ ¬ 0 < s.ep ∧ s.may = false) ∨ (rtr s.org = true ∧ 0 < s.ep ∧ ¬ 0 < s.sq ∧ s.may = false) ∨ (rtr s.org = true ∧ 0 < s.ep ∧ 0 < s.sq ∧ s.may = true) := by
    unfold St.may
    cases rtr s.org
    · simp
    · by_cases h1 : 0 < s.ep
      · by_cases h2 : 0 < s.sq
        · simp [h1, h2]
        · simp [h1, h2]
      · simp [h1]
  clear hW1 hb1
  rcases hc with ⟨h1, he⟩ | ⟨h1, h2, he⟩ | ⟨h1, h2, h3, he⟩ | ⟨h1, h2, h3, he⟩
  · have H1 := Lib.hid h1
    have HE := Lib.hid he
    clear h1 he
    go_enter Try.func85, Try.ntmps85
    unfold St.ag St.cs at *
    go_wp2_with fail
    rw [← HW1.out]
    refine (rtr_any _ _).mono ?_
    rintro e w ⟨rfl, rfl⟩
    rw [H1.out]
    go_wp2_with fail
    go_returns
    exact ⟨by rw [HE.out]; rfl, HB1.out⟩
  · have H1 := Lib.hid h1
    have HE := Lib.hid he
    have d2 : decide (0 < s.ep) = false := decide_eq_false h2
    clear h1 he
    go_enter Try.func85, Try.ntmps85
    unfold St.ag St.cs at *
    go_wp2_with fail
    rw [← HW1.out]
    refine (rtr_any _ _).mono ?_
    rintro e w ⟨rfl, rfl⟩
    rw [H1.out]
    go_wp2_with fail
    go_returns
    exact ⟨by rw [HE.out]; rfl, HB1.out⟩
  · have H1 := Lib.hid h1
    have HE := Lib.hid he
    have d2 : decide (0 < s.ep) = true := decide_eq_true h2
    have d3 : decide (0 < s.sq) = false := decide_eq_false h3
    clear h1 he
    go_enter Try.func85, Try.ntmps85
    unfold St.ag St.cs at *
    go_wp2_with fail
    rw [← HW1.out]
    refine (rtr_any _ _).mono ?_
    rintro e w ⟨rfl, rfl⟩
    rw [H1.out]
    go_wp2_with fail
    go_returns
    exact ⟨by rw [HE.out]; rfl, HB1.out⟩
  · have H1 := Lib.hid h1
    have HE := Lib.hid he
    have d2 : decide (0 < s.ep) = true := decide_eq_true h2
    have d3 : decide (0 < s.sq) = true := decide_eq_true h3
    clear h1 he
    go_enter Try.func85, Try.ntmps85
    unfold St.ag St.cs at *
    go_wp2_with fail
    rw [← HW1.out]
    refine (rtr_any _ _).mono ?_
    rintro e w ⟨rfl, rfl⟩
    rw [H1.out]
    go_wp2_with fail
    go_returns
    exact ⟨by rw [HE.out]; rfl, HB1.out⟩
/-- Which is newer. -/
def cmpN (x y : Nat) : Int := if x < y then -1 else if y < x then 1 else 0
def orI (x y : Int) : Int := if x ≠ 0 then x else y
def nw (a b : St) : Int := orI (cmpN a.ep b.ep) (cmpN a.sq b.sq)
def OrRel (W : World) (x y : Int) (i : Value) (wr : World) : Prop := wr = W ∧ ∃ k : Nat, i = .int .i64 k ∧ k ≤ 2 ∧ (1 ≤ k → x = 0) ∧ (2 ≤ k → y = 0)
structure NwS (W : World) (a b : St) (V : World) : Prop where
  b0 : BoxS W.heap.size a V
  b1 : BoxS (W.heap.size + 1) b V
  bel : Below W.heap.size W V
theorem NwS.later {W V X : World} {a b : St} (h : NwS W a b V) (hb : Below V.heap.size V X) : NwS W a b X := ⟨h.b0.later hb, h.b1.later hb, h.bel.trans (hb.mono h.bel.size)⟩
theorem nw_ref (a b : St) (ha : a.ok) (hb : b.ok) : nw a b = if a.ep * 4294967296 + a.sq < b.ep * 4294967296 + b.sq then -1 else if b.ep * 4294967296 + b.sq < a.ep * 4294967296 + a.sq then 1 else 0 := by
  obtain ⟨_, a1, a2⟩ := ha
  obtain ⟨_, b1, b2⟩ := hb
  unfold nw orI cmpN
  by_cases h1 : a.ep < b.ep
  · simp [h1, show a.ep * 4294967296 + a.sq < b.ep * 4294967296 + b.sq from by omega]
  · by_cases h2 : b.ep < a.ep
    · simp [h1, h2, show ¬ a.ep * 4294967296 + a.sq < b.ep * 4294967296 + b.sq from by omega, show b.ep * 4294967296 + b.sq < a.ep * 4294967296 + a.sq from by omega]
    · have h3 : a.ep = b.ep := by omega
      rw [h3]
      simp
end Go.Proofs.Ytickjmkkgcfkhaa
