/- Contracts of the record: may it be. -/
import Derived.Test.YtickjmkkgcfkhaaGreatRows
import Derived.Test.YtickjmkkgcfkhaaGreatRecP
import Derived.Test.YtickjmkkgcfkhaaGreatAgg
import Derived.Test.YtickjmkkgcfkhaaGreatRegG
import Derived.Handy
import Derived.Outline
import Derived.IntWalk
import Derived.Laws.EntriesVeiled
set_option linter.unusedSimpArgs false
set_option linter.unusedVariables false
set_option maxRecDepth 100000
namespace Go.Proofs.YtickjmkkgcfkhaaGreat
open Go.RowKit Go.ChangeShapes Go.WideShapes

/-- Neighbours in memory. -/
def AdjsIn (W : World) (a : Option Addr) (xs : List (Int × Int)) : Prop :=
  ∀ i, i < xs.length → ∃ ad, a = some ad ∧ W.cell? (ad.add (i * 2)) = some (.int .i64 (xs.getD i default).1) ∧ W.cell? ⟨(ad.add (i * 2)).block, (ad.add (i * 2)).off + 1, none⟩ = some (.int .i64 (xs.getD i default).2)
theorem AdjsIn.later {W V : World} {a : Option Addr} {xs : List (Int × Int)} (h : AdjsIn W a xs) (hb : Below W.heap.size W V) : AdjsIn V a xs := fun i hi => by
  obtain ⟨ad, h1, h2, h3⟩ := h i hi
  exact ⟨ad, h1, (hb.cell (block_lt_of_cell h2)).trans h2, (hb.cell (block_lt_of_cell h3)).trans h3⟩
/-- A record as a value. -/
def Rc.cs (r : Rc) (sa : Option Addr) (sc : Nat) : Array Value := #[.int .i64 r.org, .int .u32 r.ep, .int .u32 r.sq, .int .i64 r.clm, .bool r.ing, .slice sa r.adjs.length sc]
def Rc.ag (r : Rc) (sa : Option Addr) (sc : Nat) : Value := .agg (r.cs sa sc)
/-- A record in a box. -/
def BoxR (b : Nat) (r : Rc) (sa : Option Addr) (sc : Nat) (V : World) : Prop := V.heap[b]? = some (.cells (r.cs sa sc) 25 (0, 0))
theorem BoxR.later {b : Nat} {r : Rc} {sa : Option Addr} {sc : Nat} {V X : World} (h : BoxR b r sa sc V) (hb : Below V.heap.size V X) : BoxR b r sa sc X := (hb.block b (Array.getElem?_eq_some_iff.1 h).1).trans h
theorem BoxR.cells {b : Nat} {r : Rc} {sa : Option Addr} {sc : Nat} {V : World} (h : BoxR b r sa sc V) : V.cell? ⟨b, 0, none⟩ = some (.int .i64 r.org) ∧ V.cell? ⟨b, 1, none⟩ = some (.int .u32 r.ep) ∧ V.cell? ⟨b, 2, none⟩ = some (.int .u32 r.sq) ∧ V.cell? ⟨b, 3, none⟩ = some (.int .i64 r.clm) ∧ V.cell? ⟨b, 4, none⟩ = some (.bool r.ing) ∧ V.cell? ⟨b, 5, none⟩ = some (.slice sa r.adjs.length sc) :=
  ⟨cell_of_row _ _ 0 _ _ _ h, cell_of_row _ _ 1 _ _ _ h, cell_of_row _ _ 2 _ _ _ h, cell_of_row _ _ 3 _ _ _ h, cell_of_row _ _ 4 _ _ _ h, cell_of_row _ _ 5 _ _ _ h⟩

theorem rtr_any (n : Int) (W : World) : Calls Tryz.prog 77 #[.int .i64 n] W fun e W' => e = .returned (.bool (rtr n)) ∧ W = W' := by
  by_cases h1 : 1 ≤ n
  · have e : rtr n = decide (n ≤ 24) := by unfold rtr; rw [decide_eq_true h1, Bool.true_and]
    have h1' : decide (1 ≤ n) = true := decide_eq_true h1
    have HE := Lib.hid e
    clear e
    go_enter Tryz.func77, Tryz.ntmps77
    go_wp2_with fail
    go_returns
    exact ⟨by rw [HE.out]; rfl, rfl⟩
  · have e : rtr n = false := by unfold rtr; rw [decide_eq_false h1, Bool.false_and]
    have h1' : decide (1 ≤ n) = false := decide_eq_false h1
    have HE := Lib.hid e
    clear e
    go_enter Tryz.func77, Tryz.ntmps77
    go_wp2_with fail
    go_returns
    exact ⟨by rw [HE.out]; rfl, rfl⟩

/-- How a record falls. -/
theorem chk_cases (r : Rc) : (rtr r.org = false ∧ r.err = 2) ∨ (rtr r.org = true ∧ r.ep = 0 ∧ r.err = 2) ∨ (rtr r.org = true ∧ r.ep ≠ 0 ∧ r.sq = 0 ∧ r.err = 2) ∨ (rtr r.org = true ∧ r.ep ≠ 0 ∧ r.sq ≠ 0 ∧ r.clm < 0 ∧ r.err = 2) ∨
    (rtr r.org = true ∧ r.ep ≠ 0 ∧ r.sq ≠ 0 ∧ 0 ≤ r.clm ∧ 1024 < r.clm ∧ r.err = 2) ∨ (rtr r.org = true ∧ r.ep ≠ 0 ∧ r.sq ≠ 0 ∧ 0 ≤ r.clm ∧ r.clm ≤ 1024 ∧ 16 < r.adjs.length ∧ r.err = 2) ∨
    (rtr r.org = true ∧ r.ep ≠ 0 ∧ r.sq ≠ 0 ∧ 0 ≤ r.clm ∧ r.clm ≤ 1024 ∧ r.adjs.length ≤ 16 ∧ r.err = if chkA r.org 0 r.adjs then 0 else 2) := by
  unfold Rc.err Rc.chk
  by_cases h1 : rtr r.org = true
  rotate_left
  · simp [h1]
  by_cases h2 : r.ep = 0
  · simp [h1, h2]
  by_cases h3 : r.sq = 0
  · simp [h1, h2, h3]
  by_cases h4 : 0 ≤ r.clm
  rotate_left
  · simp [h1, h2, h3, h4]; omega
  by_cases h5 : r.clm ≤ 1024
  rotate_left
  · simp [h1, h2, h3, h4, h5]; omega
  by_cases h6 : r.adjs.length ≤ 16
  rotate_left
  · simp [h1, h2, h3, h4, h5, h6]; omega
  right; right; right; right; right; right
  simp [h1, h2, h3, h4, h5, h6]
theorem chkA_cases (org last : Int) (a : Int × Int) (l : List (Int × Int)) : (rtr a.1 = false ∧ chkA org last (a :: l) = false) ∨ (rtr a.1 = true ∧ a.1 = org ∧ chkA org last (a :: l) = false) ∨ (rtr a.1 = true ∧ a.1 ≠ org ∧ a.2 < 1 ∧ chkA org last (a :: l) = false) ∨
    (rtr a.1 = true ∧ a.1 ≠ org ∧ 1 ≤ a.2 ∧ 1000 < a.2 ∧ chkA org last (a :: l) = false) ∨ (rtr a.1 = true ∧ a.1 ≠ org ∧ 1 ≤ a.2 ∧ a.2 ≤ 1000 ∧ a.1 ≤ last ∧ chkA org last (a :: l) = false) ∨
    (rtr a.1 = true ∧ a.1 ≠ org ∧ 1 ≤ a.2 ∧ a.2 ≤ 1000 ∧ last < a.1 ∧ chkA org last (a :: l) = chkA org a.1 l) := by
  rw [chkA]
  by_cases h1 : rtr a.1 = true
  rotate_left
  · simp [h1]
  by_cases h2 : a.1 = org
  · simp [h1, h2]
  by_cases h3 : 1 ≤ a.2
  rotate_left
  · simp [h1, h2, h3]; omega
  by_cases h4 : a.2 ≤ 1000
  rotate_left
  · simp [h1, h2, h3, h4]; omega
  by_cases h5 : last < a.1
  rotate_left
  · simp [h1, h2, h3, h4, h5]; omega
  right; right; right; right; right
  simp [h1, h2, h3, h4, h5]

def ChkRel (W : World) (r : Rc) (sa : Option Addr) (sc : Nat) (last i : Value) (wr : World) : Prop :=
  ∃ (k : Nat) (z : Int), i = .int .i64 k ∧ last = .int .i64 z ∧ k ≤ r.adjs.length ∧ chkA r.org 0 r.adjs = chkA r.org z (r.adjs.drop k) ∧ BoxR W.heap.size r sa sc wr ∧ Below W.heap.size W wr

set_option maxRecDepth 100000 in
set_option maxHeartbeats 1600000 in
theorem check_any (r : Rc) (sa : Option Addr) (sc : Nat) (W : World) (hA : AdjsIn W sa r.adjs) (hl : r.adjs.length ≤ maxLen) :
    Calls Tryz.prog 43 #[r.ag sa sc] W fun e W' => e = .returned (.int .i64 r.err) ∧ Below W.heap.size W W' := by
  unfold maxLen at hl
  obtain ⟨W1, hW1⟩ : ∃ W1, W1 = W.alloc (.cells (r.cs sa sc) 25) := ⟨_, rfl⟩
  have hb1 : Below W.heap.size W W1 := by rw [hW1]; exact (Below.refl _ _).alloc (Nat.le_refl _) _
  have hbx : BoxR W.heap.size r sa sc W1 := by rw [hW1]; exact heap_alloc_new _ _
  obtain ⟨x0, x1, x2, x3, x4, x5⟩ := hbx.cells
  have HBX := Lib.hid hbx
  have HW1 := Lib.hid hW1
  have HB1 := Lib.hid hb1
  have HAD := Lib.hid hA
  have HCS := Lib.hid (chk_cases r)
  have HR := Lib.hid (fun V => rtr_any r.org V)
  clear hW1 hb1 hA hbx
  rcases HCS.out with ⟨h1, he⟩ | ⟨h1, h2, he⟩ | ⟨h1, h2, h3, he⟩ | ⟨h1, h2, h3, h4, he⟩ | ⟨h1, h2, h3, h4, h5, he⟩ | ⟨h1, h2, h3, h4, h5, h6, he⟩ | ⟨h1, h2, h3, h4, h5, h6, he⟩
  · have H1 := Lib.hid h1
    have HE := Lib.hid he
    clear h1 he
    go_enter Tryz.func43, Tryz.ntmps43
    unfold Rc.ag Rc.cs at *
    go_wp2_with fail
    rw [← HW1.out]
    refine (HR.out _).mono ?_
    rintro e w ⟨rfl, rfl⟩
    rw [H1.out]
    go_wp2_with fail
    go_returns
    exact ⟨by rw [HE.out]; rfl, HB1.out⟩
  · have H1 := Lib.hid h1
    have HE := Lib.hid he
    have e2 : ((r.ep : Int) == 0) = true := by simp [h2]
    clear h1 he h2
    go_enter Tryz.func43, Tryz.ntmps43
    unfold Rc.ag Rc.cs at *
    go_wp2_with fail
    rw [← HW1.out]
    refine (HR.out _).mono ?_
    rintro e w ⟨rfl, rfl⟩
    rw [H1.out]
    go_wp2_with fail
    go_returns
    exact ⟨by rw [HE.out]; rfl, HB1.out⟩
  · have H1 := Lib.hid h1
    have HE := Lib.hid he
    have e2 : ((r.ep : Int) == 0) = false := by simp [h2]
    have e3 : ((r.sq : Int) == 0) = true := by simp [h3]
    clear h1 he h2 h3
    go_enter Tryz.func43, Tryz.ntmps43
    unfold Rc.ag Rc.cs at *
    go_wp2_with fail
    rw [← HW1.out]
    refine (HR.out _).mono ?_
    rintro e w ⟨rfl, rfl⟩
    rw [H1.out]
    go_wp2_with fail
    go_returns
    exact ⟨by rw [HE.out]; rfl, HB1.out⟩
  · have H1 := Lib.hid h1
    have HE := Lib.hid he
    have e2 : ((r.ep : Int) == 0) = false := by simp [h2]
    have e3 : ((r.sq : Int) == 0) = false := by simp [h3]
    clear h1 he h2 h3
    go_enter Tryz.func43, Tryz.ntmps43
    unfold Rc.ag Rc.cs at *
    go_wp2_with fail
    rw [← HW1.out]
    refine (HR.out _).mono ?_
    rintro e w ⟨rfl, rfl⟩
    rw [H1.out]
    go_wp2_with fail
    go_returns
    exact ⟨by rw [HE.out]; rfl, HB1.out⟩
  · have H1 := Lib.hid h1
    have HE := Lib.hid he
    have e2 : ((r.ep : Int) == 0) = false := by simp [h2]
    have e3 : ((r.sq : Int) == 0) = false := by simp [h3]
    clear h1 he h2 h3
    go_enter Tryz.func43, Tryz.ntmps43
    unfold Rc.ag Rc.cs at *
    go_wp2_with fail
    rw [← HW1.out]
    refine (HR.out _).mono ?_
    rintro e w ⟨rfl, rfl⟩
    rw [H1.out]
    go_wp2_with fail
    go_returns
    exact ⟨by rw [HE.out]; rfl, HB1.out⟩
  · have H1 := Lib.hid h1
    have HE := Lib.hid he
    have e2 : ((r.ep : Int) == 0) = false := by simp [h2]
    have e3 : ((r.sq : Int) == 0) = false := by simp [h3]
    clear h1 he h2 h3
    go_enter Tryz.func43, Tryz.ntmps43
    unfold Rc.ag Rc.cs at *
    go_wp2_with fail
    rw [← HW1.out]
    refine (HR.out _).mono ?_
    rintro e w ⟨rfl, rfl⟩
    rw [H1.out]
    go_wp2_with fail
    go_returns
    exact ⟨by rw [HE.out]; rfl, HB1.out⟩
  · have H1 := Lib.hid h1
    have HE := Lib.hid he
    have e2 : ((r.ep : Int) == 0) = false := by simp [h2]
    have e3 : ((r.sq : Int) == 0) = false := by simp [h3]
    clear h1 he h2 h3
    go_enter Tryz.func43, Tryz.ntmps43
    unfold Rc.ag Rc.cs at *
    go_wp2_with fail
    rw [← HW1.out]
    refine (HR.out _).mono ?_
    rintro e w ⟨rfl, rfl⟩
    rw [H1.out]
    go_wp2_with fail
    go_loopw [3, 39] (fun last i wr => ChkRel W r sa sc last i wr) (fun _ i _ => 17 - (intOf i).toNat)
    case atStart => exact ⟨0, 0, rfl, rfl, Nat.zero_le _, by rw [List.drop_zero], HBX.out, HB1.out⟩
    case round =>
      obtain ⟨k, z, rfl, rfl, hk, hch, hbx, hb⟩ := hrel
      by_cases hlt : k < r.adjs.length
      · obtain ⟨ad, ha, c0, c1⟩ := HAD.out k hlt
        have hd : r.adjs.drop k = r.adjs.getD k default :: r.adjs.drop (k + 1) := by
          rw [List.drop_eq_getElem_cons hlt, List.getD_eq_getElem?_getD, List.getElem?_eq_getElem hlt]; rfl
        rw [hd] at hch
        obtain ⟨a, hae⟩ : ∃ a, a = r.adjs.getD k default := ⟨_, rfl⟩
        rw [← hae] at c0 c1 hch
        obtain ⟨X, hX⟩ : ∃ X, X = wr.alloc (.cells #[.int .i64 a.1, .int .i64 a.2] 45) := ⟨_, rfl⟩
        have hbX : Below wr.heap.size wr X := by rw [hX]; exact (Below.refl _ _).alloc (Nat.le_refl _) _
        have HBX1 := Lib.hid (hbx.later hbX)
        have HBX2 := Lib.hid (hb.trans (hbX.mono hb.size))
        have b0 := (cell_of_row X wr.heap.size 0 _ _ _ (by rw [hX]; exact heap_alloc_new _ _)).trans rfl
        have b1 := (cell_of_row X wr.heap.size 1 _ _ _ (by rw [hX]; exact heap_alloc_new _ _)).trans rfl
        obtain ⟨x0, x1, x2, x3, x4, x5⟩ := HBX1.out.cells
        have HX := Lib.hid hX
        have HAE := Lib.hid hae
        have C0 := HAD.out
        have c0' := (hb.cell (block_lt_of_cell c0)).trans c0
        have c1' := (hb.cell (block_lt_of_cell c1)).trans c1
        subst ha
        clear hX hbX hbx hd hae c0 c1 C0 hb
        have hcs := chkA_cases r.org z a (r.adjs.drop (k + 1))
        rcases hcs with ⟨g1, gc⟩ | ⟨g1, g2, gc⟩ | ⟨g1, g2, g3, gc⟩ | ⟨g1, g2, g3, g4, gc⟩ | ⟨g1, g2, g3, g4, g5, gc⟩ | ⟨g1, g2, g3, g4, g5, gc⟩
        · have G1 := Lib.hid g1
          have HE2 := Lib.hid (show r.err = 2 by rw [HE.out, hch, gc]; rfl)
          clear g1 gc hch
          go_wp2_with fail
          rw [← HX.out]
          refine (rtr_any a.1 X).mono ?_
          rintro e w ⟨rfl, rfl⟩
          rw [G1.out]
          go_wp2_with fail
          go_returns
          exact ⟨by rw [HE2.out]; rfl, HBX2.out⟩
        · have G1 := Lib.hid g1
          have e2 : (a.1 == r.org) = true := by rw [beq_iff_eq]; exact g2
          have HE2 := Lib.hid (show r.err = 2 by rw [HE.out, hch, gc]; rfl)
          clear g1 g2 gc hch
          go_wp2_with fail
          rw [← HX.out]
          refine (rtr_any a.1 X).mono ?_
          rintro e w ⟨rfl, rfl⟩
          rw [G1.out]
          go_wp2_with fail
          go_returns
          exact ⟨by rw [HE2.out]; rfl, HBX2.out⟩
        · have G1 := Lib.hid g1
          have e2 : (a.1 == r.org) = false := by rw [beq_eq_false_iff_ne]; exact g2
          have HE2 := Lib.hid (show r.err = 2 by rw [HE.out, hch, gc]; rfl)
          clear g1 g2 gc hch
          go_wp2_with fail
          rw [← HX.out]
          refine (rtr_any a.1 X).mono ?_
          rintro e w ⟨rfl, rfl⟩
          rw [G1.out]
          go_wp2_with fail
          go_returns
          exact ⟨by rw [HE2.out]; rfl, HBX2.out⟩
        · have G1 := Lib.hid g1
          have e2 : (a.1 == r.org) = false := by rw [beq_eq_false_iff_ne]; exact g2
          have HE2 := Lib.hid (show r.err = 2 by rw [HE.out, hch, gc]; rfl)
          clear g1 g2 gc hch
          go_wp2_with fail
          rw [← HX.out]
          refine (rtr_any a.1 X).mono ?_
          rintro e w ⟨rfl, rfl⟩
          rw [G1.out]
          go_wp2_with fail
          go_returns
          exact ⟨by rw [HE2.out]; rfl, HBX2.out⟩
        · have G1 := Lib.hid g1
          have e2 : (a.1 == r.org) = false := by rw [beq_eq_false_iff_ne]; exact g2
          have HE2 := Lib.hid (show r.err = 2 by rw [HE.out, hch, gc]; rfl)
          clear g1 g2 gc hch
          go_wp2_with fail
          rw [← HX.out]
          refine (rtr_any a.1 X).mono ?_
          rintro e w ⟨rfl, rfl⟩
          rw [G1.out]
          go_wp2_with fail
          go_returns
          exact ⟨by rw [HE2.out]; rfl, HBX2.out⟩
        · have G1 := Lib.hid g1
          have e2 : (a.1 == r.org) = false := by rw [beq_eq_false_iff_ne]; exact g2
          have HREL := Lib.hid (show ChkRel W r (some ad) sc (.int .i64 a.1) (.int .i64 ((k : Int) + 1)) X from ⟨k + 1, a.1, by go_num, rfl, hlt, by rw [hch, gc], HBX1.out, HBX2.out⟩)
          clear g1 g2 gc hch
          go_wp2_with fail
          rw [← HX.out]
          refine (rtr_any a.1 X).mono ?_
          rintro e w ⟨rfl, rfl⟩
          rw [G1.out]
          go_wp2_with fail
          go_roundw
          case rel => first | exact HREL.out | ((repeat apply Exists.intro); exact ⟨HREL.out, rfl⟩)
          case measure => simp [intOf]; omega
      · obtain rfl : k = r.adjs.length := by omega
        rw [List.drop_length] at hch
        have HE2 := Lib.hid (show r.err = 0 by rw [HE.out, hch]; rfl)
        have HB := Lib.hid hb
        clear hch hbx hb
        go_wp2_with fail
        go_returns
        exact ⟨by rw [HE2.out]; rfl, HB.out⟩

end Go.Proofs.YtickjmkkgcfkhaaGreat
