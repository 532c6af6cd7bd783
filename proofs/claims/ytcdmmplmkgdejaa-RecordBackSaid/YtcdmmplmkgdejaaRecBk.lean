/- The walk of the law RecordBack. -/
import Derived.Test.YtcdmmplmkgdejaaRecOpen
import Derived.Test.YtcdmmplmkgdejaaRecY
set_option linter.unusedSimpArgs false
set_option linter.unusedVariables false
namespace Go.Proofs.Ytcdmmplmkgdejaa
open Go.RowKit Go.ChangeShapes Go.WideShapes

structure BkS (W : World) (r : Rc) (sa : Option Addr) (sc : Nat) (V : World) : Prop where
  box : BoxR W.heap.size r sa sc V
  adj : AdjsIn V sa r.adjs
  bel : Below W.heap.size W V
theorem BkS.later {W V X : World} {r : Rc} {sa : Option Addr} {sc : Nat} (h : BkS W r sa sc V) (hb : Below V.heap.size V X) : BkS W r sa sc X := ⟨h.box.later hb, h.adj.later hb, h.bel.trans (hb.mono h.bel.size)⟩
theorem BkS.drew {W V : World} {r : Rc} {sa : Option Addr} {sc : Nat} (h : BkS W r sa sc V) : BkS W r sa sc V.drew := h.later ⟨rfl, rfl, rfl, Nat.le_refl _, fun _ _ => rfl⟩
theorem BkS.start {W : World} {r : Rc} {sa : Option Addr} {sc : Nat} (h : AdjsIn W sa r.adjs) : BkS W r sa sc (W.alloc (.cells (r.cs sa sc) 25)) := by
  have hb : Below W.heap.size W (W.alloc (.cells (r.cs sa sc) 25)) := (Below.refl _ _).alloc (Nat.le_refl _) _
  exact ⟨heap_alloc_new _ _, h.later hb, hb⟩
structure BkT (W : World) (r : Rc) (sa : Option Addr) (sc : Nat) (q : Nat) (V : World) : Prop where
  bk : BkS W r sa sc V
  st : BoxS q r.st V
theorem BkT.later {W V X : World} {r : Rc} {sa : Option Addr} {sc q : Nat} (h : BkT W r sa sc q V) (hb : Below V.heap.size V X) : BkT W r sa sc q X := ⟨h.bk.later hb, h.st.later hb⟩
theorem BkT.drew {W V : World} {r : Rc} {sa : Option Addr} {sc q : Nat} (h : BkT W r sa sc q V) : BkT W r sa sc q V.drew := h.later ⟨rfl, rfl, rfl, Nat.le_refl _, fun _ _ => rfl⟩

def BkE (r : Rc) (s : ByteArray) (d : Int) : Prop := ∀ sa sc W, AdjsIn W sa r.adjs → Calls Try.prog 16 #[.agg #[.int .i64 r.org, .int .u32 r.ep, .int .u32 r.sq, .int .i64 r.clm, .bool r.ing, .slice sa r.adjs.length sc]] W fun e W' => e = .returned (.tuple #[.string s, .int .i64 d]) ∧ Below W.heap.size W W'
def BkC (r : Rc) (d : Int) : Prop := ∀ sa sc W, AdjsIn W sa r.adjs → Calls Try.prog 18 #[.agg #[.int .i64 r.org, .int .u32 r.ep, .int .u32 r.sq, .int .i64 r.clm, .bool r.ing, .slice sa r.adjs.length sc]] W fun e W' => e = .returned (.int .i64 d) ∧ Below W.heap.size W W'
def BkM (r : Rc) : Prop := ∀ sb sd sa sc W, AdjsIn W sb r.adjs → AdjsIn W sa r.adjs → Calls Try.prog 22 #[.agg #[.int .i64 r.org, .int .u32 r.ep, .int .u32 r.sq, .int .i64 r.clm, .bool r.ing, .slice sb r.adjs.length sd], .agg #[.int .i64 r.org, .int .u32 r.ep, .int .u32 r.sq, .int .i64 r.clm, .bool r.ing, .slice sa r.adjs.length sc]] W fun e W' => e = .returned (.bool true) ∧ Below W.heap.size W W'
def BkP (r : Rc) : Prop := ∀ sa sc W, Calls Try.prog 20 #[.agg #[.int .i64 r.org, .int .u32 r.ep, .int .u32 r.sq, .int .i64 r.clm, .bool r.ing, .slice sa r.adjs.length sc]] W fun e W' => e = .returned (.agg #[.int .i64 r.org, .int .u32 r.ep, .int .u32 r.sq]) ∧ Below W.heap.size W W'
def BkES (r : Rc) (t : ByteArray) : Prop := ∀ W, Calls Try.prog 24 #[.agg #[.int .i64 r.org, .int .u32 r.ep, .int .u32 r.sq]] W fun e W' => e = .returned (.tuple #[.string t, .int .i64 0]) ∧ Below W.heap.size W W'
def BkDS (r : Rc) (t : ByteArray) : Prop := ∀ W, Calls Try.prog 23 #[.string t] W fun e W' => e = .returned (.tuple #[.agg #[.int .i64 r.org, .int .u32 r.ep, .int .u32 r.sq], .int .i64 0]) ∧ Below W.heap.size W W'
def BkD (r : Rc) (s : ByteArray) (d : Int) : Prop := ∀ W, Calls Try.prog 11 #[.string s] W fun e W' => ∃ sa sc, e = .returned (.tuple #[.agg #[.int .i64 r.org, .int .u32 r.ep, .int .u32 r.sq, .int .i64 r.clm, .bool r.ing, .slice sa r.adjs.length sc], .int .i64 d]) ∧ ARow W' W.heap.size sa sc r.adjs ∧ Below W.heap.size W W'

set_option maxRecDepth 100000 in
set_option maxHeartbeats 1600000 in
theorem back_no (r : Rc) (sa : Option Addr) (sc : Nat) (more : ByteArray) (w : World) (hA : AdjsIn w sa r.adjs) (hE : BkE r ⟨#[]⟩ 2) (hC : BkC r 2) :
    Calls Try.prog 7 #[r.ag sa sc, .string more] w fun e w' => e = .returned (.bool true) ∧ Below w.heap.size w w' := by
  obtain ⟨W1, hW1⟩ : ∃ W1, W1 = w.alloc (.cells (r.cs sa sc) 25) := ⟨_, rfl⟩
  have HS1 := Lib.hid (show BkS w r sa sc W1 by rw [hW1]; exact BkS.start hA)
  have HW1 := Lib.hid hW1
  have HE := Lib.hid hE
  have HC := Lib.hid hC
  clear hW1 hE hC hA
  go_enter Try.func7, Try.ntmps7
  unfold Rc.ag Rc.cs at *
  go_wp2_with fail
  rw [← HW1.out]
  refine (works_any _).mono ?_
  rintro e V1 ⟨rfl, hb⟩
  have HS2 := Lib.hid (HS1.out.later hb)
  obtain ⟨x0, x1, x2, x3, x4, x5⟩ := BoxR.cells HS2.out.box
  clear hb
  go_wp2_with fail
  clear x0 x1 x2 x3 x4 x5
  refine (HE.out _ _ _ HS2.out.adj).mono ?_
  rintro e V2 ⟨rfl, hb⟩
  have HS3 := Lib.hid (HS2.out.later hb)
  obtain ⟨x0, x1, x2, x3, x4, x5⟩ := BoxR.cells HS3.out.box
  clear hb
  go_wp2_with fail
  clear x0 x1 x2 x3 x4 x5
  refine (HC.out _ _ _ HS3.out.adj).mono ?_
  rintro e V3 ⟨rfl, hb⟩
  have HS4 := Lib.hid (HS3.out.later hb)
  clear hb
  go_wp2_with fail
  go_returns
  exact ⟨rfl, HS4.out.bel⟩

set_option maxRecDepth 100000 in
set_option maxHeartbeats 6400000 in
theorem back_same (r : Rc) (sa : Option Addr) (sc : Nat) (more : ByteArray) (s t : ByteArray) (w : World) (hA : AdjsIn w sa r.adjs) (hE : BkE r s 0) (hC : BkC r 0) (hM : BkM r) (hP : BkP r) (hES : BkES r t) (hDS : BkDS r t) (hD : BkD r s 0)
    (hsl : s.extract 0 9 = t) (h9 : 9 ≤ s.size) (hm : more = ⟨#[]⟩) :
    Calls Try.prog 7 #[r.ag sa sc, .string more] w fun e w' => e = .returned (.bool true) ∧ Below w.heap.size w w' := by
  obtain ⟨W1, hW1⟩ : ∃ W1, W1 = w.alloc (.cells (r.cs sa sc) 25) := ⟨_, rfl⟩
  have HS1 := Lib.hid (show BkS w r sa sc W1 by rw [hW1]; exact BkS.start hA)
  have HW1 := Lib.hid hW1
  have HE := Lib.hid hE
  have HC := Lib.hid hC
  have HM := Lib.hid hM
  have HP := Lib.hid hP
  have HES := Lib.hid hES
  have HDS := Lib.hid hDS
  have HD := Lib.hid hD
  have HSL := Lib.hid hsl
  have H9 := Lib.hid h9
  subst hm
  clear hW1 hE hC hA hM hP hES hDS hD hsl h9
  go_enter Try.func7, Try.ntmps7
  unfold Rc.ag Rc.cs at *
  go_wp2_with fail
  rw [← HW1.out]
  refine (works_any _).mono ?_
  rintro e V1 ⟨rfl, hb⟩
  have HS2 := Lib.hid (HS1.out.later hb)
  obtain ⟨x0, x1, x2, x3, x4, x5⟩ := BoxR.cells HS2.out.box
  clear hb
  go_wp2_with fail
  clear x0 x1 x2 x3 x4 x5
  refine (HE.out _ _ _ HS2.out.adj).mono ?_
  rintro e V2 ⟨rfl, hb⟩
  have HS3 := Lib.hid (HS2.out.later hb)
  clear hb
  go_wp2_with fail
  refine (HD.out _).mono ?_
  rintro e V3 ⟨sb, sd, rfl, hro, hb⟩
  obtain ⟨X0, hX⟩ : ∃ X, X = V3.alloc (.cells #[.int .i64 r.org, .int .u32 r.ep, .int .u32 r.sq, .int .i64 r.clm, .bool r.ing, .slice sb r.adjs.length sd] 25) := ⟨_, rfl⟩
  obtain ⟨p, hp⟩ : ∃ p, p = V3.heap.size := ⟨_, rfl⟩
  have hbX : Below V3.heap.size V3 X0 := by rw [hX]; exact (Below.refl _ _).alloc (Nat.le_refl _) _
  have HB0 := Lib.hid (show BoxR p r sb sd X0 by rw [hX, hp]; exact heap_alloc_new _ _)
  have HA0 := Lib.hid (hro.adjs.later hbX)
  have HS4 := Lib.hid ((HS3.out.later hb).later hbX)
  have HX0 := Lib.hid hX
  have HP0 := Lib.hid hp
  obtain ⟨x0, x1, x2, x3, x4, x5⟩ := BoxR.cells HS4.out.box
  clear hb hbX hX hro hp
  rw [HX0.out] at x0 x1 x2 x3 x4 x5
  go_wp2_with fail
  rw [← HX0.out, ← HP0.out]
  clear x0 x1 x2 x3 x4 x5
  refine (HC.out _ _ _ HS4.out.adj).mono ?_
  rintro e V4 ⟨rfl, hb⟩
  have HS5 := Lib.hid (HS4.out.later hb)
  have HB5 := Lib.hid (HB0.out.later hb)
  have HA5 := Lib.hid (HA0.out.later hb)
  obtain ⟨x0, x1, x2, x3, x4, x5⟩ := BoxR.cells HS5.out.box
  obtain ⟨y0, y1, y2, y3, y4, y5⟩ := BoxR.cells HB5.out
  clear hb
  go_wp2_with fail
  clear x0 x1 x2 x3 x4 x5 y0 y1 y2 y3 y4 y5
  refine (HM.out _ _ _ _ _ HA5.out HS5.out.adj).mono ?_
  rintro e V5 ⟨rfl, hb⟩
  have HS6 := Lib.hid (HS5.out.later hb)
  clear hb
  have HS9 := HS6
  obtain ⟨x0, x1, x2, x3, x4, x5⟩ := BoxR.cells HS9.out.box
  go_wp2_with fail
  clear x0 x1 x2 x3 x4 x5
  refine (HP.out _ _ _).mono ?_
  rintro e V10 ⟨rfl, hb⟩
  have HS10 := Lib.hid (HS9.out.later hb)
  clear hb
  go_wp2_with fail
  refine (HES.out _).mono ?_
  rintro e V11 ⟨rfl, hb⟩
  have HS11 := Lib.hid (HS10.out.later hb)
  clear hb
  go_wp2_with fail
  refine (HDS.out _).mono ?_
  rintro e V12 ⟨rfl, hb⟩
  obtain ⟨X, hX⟩ : ∃ X, X = V12.alloc (.cells #[.int .i64 r.org, .int .u32 r.ep, .int .u32 r.sq] 39) := ⟨_, rfl⟩
  obtain ⟨q, hq⟩ : ∃ q, q = V12.heap.size := ⟨_, rfl⟩
  have hbX : Below V12.heap.size V12 X := by rw [hX]; exact (Below.refl _ _).alloc (Nat.le_refl _) _
  obtain ⟨U, hU⟩ : ∃ U, U = X.drew := ⟨_, rfl⟩
  have hS5 : BkS w r sa sc X := (HS11.out.later hb).later hbX
  have HS12 := Lib.hid (show BkT w r sa sc q U by
    rw [hU]
    exact BkT.drew ⟨hS5, by rw [hX, hq]; exact heap_alloc_new _ _⟩)
  have HX := Lib.hid hX
  have HQ := Lib.hid hq
  have HUU := Lib.hid hU
  clear hb hbX hX hq hU hS5
  go_wp2_with fail
  rw [← HX.out, ← HQ.out]
  refine wp_region_ord [(0, true), (1, true), (2, true), (3, true), (4, true), (5, true), (6, true), (7, true), (8, true), (9, false), (10, true), (11, true), (12, true), (13, true), (14, true), (15, true), (16, true), (17, true), (18, true)] (BkT w r sa sc q) (by kernel_rfl) (by kernel_rfl) (by decide) (by kernel_rfl) (fun d _ _ _ _ h => by cases d <;> exact h) (by rw [← HUU.out]; exact HS12.out) ?_
  rw [← HUU.out]
  iterate 9 ((apply wpOrd_take rfl rfl (by kernel_rfl); (intro V hV; obtain ⟨x0, x1, x2, x3, x4, x5⟩ := BoxR.cells hV.bk.box; obtain ⟨y0, y1, y2⟩ := BoxS.cells hV.st; simp only [Rc.st] at y0 y1 y2; go_simp; rfl)); (try simp only [List.setIfInBounds_toArray, List.set_cons_succ, List.set_cons_zero]))
  apply wpOrd_do rfl (by kernel_rfl)
  intro K hK
  go_simp
  refine (HP.out _ _ _).mono ?_
  rintro e1 X5 ⟨rfl, hb1⟩
  have HS13 := Lib.hid (HS12.out.later hb1)
  refine hK _ _ HS13.out ?_
  clear hK K hb1
  have h9 := H9.out
  have h9i : (9 : Int) ≤ (s.size : Int) := by omega
  have hsl := HSL.out
  iterate 6 ((apply wpOrd_take rfl rfl (by kernel_rfl); (intro V hV; go_simp; rfl)); (try simp only [List.setIfInBounds_toArray, List.set_cons_succ, List.set_cons_zero]))
  (try simp only [hsl])
  iterate 3 ((apply wpOrd_take rfl rfl (by kernel_rfl); (intro V hV; go_simp; rfl)); (try simp only [List.setIfInBounds_toArray, List.set_cons_succ, List.set_cons_zero]))
  refine wpOrd_nil ?_
  go_wp2_with fail
  go_returns
  exact ⟨rfl, HS13.out.bk.bel⟩

end Go.Proofs.Ytcdmmplmkgdejaa
