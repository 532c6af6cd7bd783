/- Contracts of the tally: its inner functions. -/
import Derived.Test.YtnfdkgmikijbgaaRows
import Derived.Test.YtnfdkgmikijbgaaRowKit
import Derived.Test.YtnfdkgmikijbgaaBase
import Derived.Test.YtnfdkgmikijbgaaRegion2
import Derived.Laws.EntriesVeiled
import Derived.OwnWalk
import Derived.IntWalk
set_option linter.unusedSimpArgs false
set_option linter.unusedVariables false
namespace Go.Proofs.Ytnfdkgmikijbgaa
open Go.RowKit Go.ChangeShapes Go.WideShapes

/-- Counts. -/
structure Cn where
  got : Int
  loc : Int
  cop : Int
  los : Int
  exp : Int
  bad : Int
deriving DecidableEq, Inhabited
def Cn.cs (c : Cn) : List Value := [.int .u64 c.got, .int .u64 c.loc, .int .u64 c.cop, .int .u64 c.los, .int .u64 c.exp, .int .u64 c.bad]
def Cn.ag (c : Cn) : Value := .agg #[.int .u64 c.got, .int .u64 c.loc, .int .u64 c.cop, .int .u64 c.los, .int .u64 c.exp, .int .u64 c.bad]
def U64 (x : Int) : Prop := 0 ≤ x ∧ x ≤ 18446744073709551615
def Cn.ok (c : Cn) : Prop := U64 c.got ∧ U64 c.loc ∧ U64 c.cop ∧ U64 c.los ∧ U64 c.exp ∧ U64 c.bad
def sat (a n : Int) : Int := if a + n ≤ 18446744073709551615 then a + n else 18446744073709551615
def Cn.add (a c : Cn) : Cn := ⟨sat a.got c.got, sat a.loc c.loc, sat a.cop c.cop, sat a.los c.los, sat a.exp c.exp, sat a.bad c.bad⟩
def Cn.zero : Cn := ⟨0, 0, 0, 0, 0, 0⟩

theorem setCell_twice (w : World) (blk off : Nat) (v v' : Value) : (w.setCell ⟨blk, off, none⟩ v).setCell ⟨blk, off, none⟩ v' = w.setCell ⟨blk, off, none⟩ v' := by
  unfold World.setCell
  congr 1
  apply Array.ext
  · simp
  · intro i h1 h2
    by_cases h : blk = i
    · subst h
      cases hh : w.heap[blk]'(by simpa using h2) <;> simp [Array.getElem_modify, hh]
    · simp [Array.getElem_modify, h]

theorem one_any (p q : Nat) (a n : Int) (W : World) (hc : W.cell? ⟨p, q, none⟩ = some (.int .u64 a)) (hf : W.frozen? ⟨p, q, none⟩ = false) (ha : U64 a) (hn : U64 n) :
    Calls Try.prog 30 #[.pointer (some ⟨p, q, none⟩), .int .u64 n] W fun e W' => e = .returned (.tuple #[]) ∧ W.setCell ⟨p, q, none⟩ (.int .u64 (sat a n)) = W' := by
  obtain ⟨ha1, ha2⟩ := ha
  obtain ⟨hn1, hn2⟩ := hn
  by_cases h : a + n ≤ 18446744073709551615
  · have hs : sat a n = a + n := by unfold sat; rw [if_pos h]
    rw [hs]
    have hw : IntKind.u64.wrap (a + n) = a + n := IntWalk.u64_in _ (by omega)
    have hl : decide (a + n < n) = false := decide_eq_false (by omega)
    go_enter Try.func30, Try.ntmps30
    go_wp2_with fail
    go_end0
    exact ⟨rfl, rfl⟩
  · have hs : sat a n = 18446744073709551615 := by unfold sat; rw [if_neg h]
    rw [hs]
    have hw : IntKind.u64.wrap (a + n) = a + n - 18446744073709551616 := by simp [IntKind.wrap, IntKind.bits, IntKind.signed]; omega
    have hl : decide (a + n - 18446744073709551616 < n) = true := decide_eq_true (by omega)
    have hss := setCell_twice W p q
    go_enter Try.func30, Try.ntmps30
    go_wp2_with fail
    go_end0
    exact ⟨rfl, rfl⟩

/-- A world in which one block's cells have been laid anew. -/
structure Wr (W V : World) (p : Nat) (ty : TypeId) (cur : Array Value) : Prop where
  os : V.os = W.os
  tape : V.tape = W.tape
  output : V.output = W.output
  size : W.heap.size ≤ V.heap.size
  block : ∀ k, k < W.heap.size → k ≠ p → V.heap[k]? = W.heap[k]?
  row : V.heap[p]? = some (.cells cur ty (0, 0))
theorem Wr.set {W V : World} {p : Nat} {ty : TypeId} {cur : Array Value} (H : Wr W V p ty cur) (q : Nat) (u : Value) : Wr W (V.setCell ⟨p, q, none⟩ u) p ty (cur.setIfInBounds q u) := by
  have e := setCell_eq_setRow V p q cur ty (0, 0) u H.row
  refine ⟨H.os, H.tape, H.output, by simpa using H.size, fun k hk hne => ?_, ?_⟩
  · rw [← H.block k hk hne]; exact heap_setCell_other _ _ _ _ hne
  · rw [e]; exact setRow_heap V p cur _ ty (0, 0) H.row
theorem Wr.later {W V X : World} {p : Nat} {ty : TypeId} {cur : Array Value} (H : Wr W V p ty cur) (hb : Below V.heap.size V X) : Wr W X p ty cur :=
  ⟨hb.os.trans H.os, hb.tape.trans H.tape, hb.output.trans H.output, Nat.le_trans H.size hb.size, fun k hk hne => (hb.block k (Nat.lt_of_lt_of_le hk H.size)).trans (H.block k hk hne), (hb.block p (Array.getElem?_eq_some_iff.1 H.row).1).trans H.row⟩
theorem Wr.drew {W V : World} {p : Nat} {ty : TypeId} {cur : Array Value} (H : Wr W V p ty cur) : Wr W V.drew p ty cur := H.later ⟨rfl, rfl, rfl, Nat.le_refl _, fun _ _ => rfl⟩
theorem Wr.trans {W V X : World} {p : Nat} {ty ty' : TypeId} {cur cur' : Array Value} (H : Wr W V p ty cur) (G : Wr V X p ty' cur') : Wr W X p ty' cur' :=
  ⟨G.os.trans H.os, G.tape.trans H.tape, G.output.trans H.output, Nat.le_trans H.size G.size, fun k hk hne => (G.block k (Nat.lt_of_lt_of_le hk H.size) hne).trans (H.block k hk hne), G.row⟩
/-- Six cells laid anew. -/
def put6 (cur : Array Value) (o : Nat) (c : Cn) : Array Value :=
  (((((cur.setIfInBounds o (.int .u64 c.got)).setIfInBounds (o + 1) (.int .u64 c.loc)).setIfInBounds (o + 2) (.int .u64 c.cop)).setIfInBounds (o + 3) (.int .u64 c.los)).setIfInBounds (o + 4) (.int .u64 c.exp)).setIfInBounds (o + 5) (.int .u64 c.bad)
structure Six (cur : Array Value) (o : Nat) (a : Cn) : Prop where
  c0 : cur[o]? = some (.int .u64 a.got)
  c1 : cur[o + 1]? = some (.int .u64 a.loc)
  c2 : cur[o + 2]? = some (.int .u64 a.cop)
  c3 : cur[o + 3]? = some (.int .u64 a.los)
  c4 : cur[o + 4]? = some (.int .u64 a.exp)
  c5 : cur[o + 5]? = some (.int .u64 a.bad)

def BoxC (b : Nat) (c : Cn) (V : World) : Prop := V.heap[b]? = some (.cells #[.int .u64 c.got, .int .u64 c.loc, .int .u64 c.cop, .int .u64 c.los, .int .u64 c.exp, .int .u64 c.bad] 37 (0, 0))

set_option maxRecDepth 100000 in
set_option maxHeartbeats 1600000 in
theorem add_any (p o : Nat) (ty : TypeId) (cur : Array Value) (a c : Cn) (W : World) (hp : W.heap[p]? = some (.cells cur ty (0, 0))) (h6 : Six cur o a) (ha : a.ok) (hc : c.ok) :
    Calls Try.prog 25 #[.pointer (some ⟨p, o, none⟩), c.ag] W fun e W' => e = .returned (.tuple #[]) ∧ Wr W W' p ty (put6 cur o (a.add c)) := by
  obtain ⟨a0, a1, a2, a3, a4, a5⟩ := ha
  obtain ⟨b0, b1, b2, b3, b4, b5⟩ := hc
  obtain ⟨d0, d1, d2, d3, d4, d5⟩ := h6
  obtain ⟨W1, hW1⟩ : ∃ W1, W1 = W.alloc (.cells #[.int .u64 c.got, .int .u64 c.loc, .int .u64 c.cop, .int .u64 c.los, .int .u64 c.exp, .int .u64 c.bad] 37) := ⟨_, rfl⟩
  have hb1 : Below W.heap.size W W1 := by rw [hW1]; exact (Below.refl _ _).alloc (Nat.le_refl _) _
  have hpl : p < W.heap.size := (Array.getElem?_eq_some_iff.1 hp).1
  have hr0 : Wr W1 W1 p ty cur := ⟨rfl, rfl, rfl, Nat.le_refl _, fun _ _ _ => rfl, (hb1.block p hpl).trans hp⟩
  have hbx : BoxC W.heap.size c W1 := by rw [hW1]; exact heap_alloc_new _ _
  have hbl : W.heap.size < W1.heap.size := (Array.getElem?_eq_some_iff.1 hbx).1
  have HBX := Lib.hid (show ∀ (V : World) (cu : Array Value), Wr W1 V p ty cu → BoxC W.heap.size c V from fun V cu h => (h.block _ hbl (by omega)).trans hbx)
  have HEND := Lib.hid (show ∀ (V : World) (cu : Array Value), Wr W1 V p ty cu → Wr W V p ty cu from fun V cu h => (Wr.later ⟨rfl, rfl, rfl, Nat.le_refl _, fun _ _ _ => rfl, hp⟩ hb1).trans h)
  have HR0 := Lib.hid hr0
  have D0 := Lib.hid d0
  have D1 := Lib.hid d1
  have D2 := Lib.hid d2
  have D3 := Lib.hid d3
  have D4 := Lib.hid d4
  have D5 := Lib.hid d5
  have A0 := Lib.hid a0
  have A1 := Lib.hid a1
  have A2 := Lib.hid a2
  have A3 := Lib.hid a3
  have A4 := Lib.hid a4
  have A5 := Lib.hid a5
  have B0 := Lib.hid b0
  have B1 := Lib.hid b1
  have B2 := Lib.hid b2
  have B3 := Lib.hid b3
  have B4 := Lib.hid b4
  have B5 := Lib.hid b5
  have hW := Lib.hid hW1
  clear hW1 hb1 hpl hr0 hbx hbl d0 d1 d2 d3 d4 d5 a0 a1 a2 a3 a4 a5 b0 b1 b2 b3 b4 b5 hp
  go_enter Try.func25, Try.ntmps25
  unfold Cn.ag
  go_wp2_with fail
  rw [← hW.out]
  refine wp_region_ord [(0, true), (1, true), (2, true), (3, true), (4, true), (5, true), (6, false)] (BoxC W.heap.size c) (by kernel_rfl) (by kernel_rfl) (by decide) (by kernel_rfl) (fun d _ _ _ _ h => by cases d <;> exact h) (HBX.out _ _ HR0.out.drew) ?_
  iterate 6 ((apply wpOrd_take rfl rfl (by kernel_rfl); (intro V hV; have x0 : V.cell? ⟨W.heap.size, 0, none⟩ = some (.int .u64 c.got) := (cell_of_row _ _ 0 _ _ _ hV).trans rfl; go_simp; rfl)); (try simp only [List.setIfInBounds_toArray, List.set_cons_succ, List.set_cons_zero]))
  apply wpOrd_do rfl (by kernel_rfl)
  intro K hK
  go_simp
  refine (one_any p (o) a.got c.got _ ((cell_of_row _ _ (o) _ _ _ HR0.out.drew.row).trans (by simp [Array.getElem?_setIfInBounds, D0.out])) (frozen_of_row _ _ (o) _ _ HR0.out.drew.row) A0.out B0.out).mono ?_
  rintro e V1 ⟨rfl, hV⟩
  have HR1 := Lib.hid (HR0.out.drew.set (o) (.int .u64 (sat a.got c.got)))
  rw [hV] at HR1
  refine hK _ _ (HBX.out _ _ HR1.out) ?_
  clear hK K hV HR0
  refine wpOrd_nil ?_
  go_wp2_with fail
  refine wp_region_ord [(0, true), (1, true), (2, true), (3, true), (4, true), (5, true), (6, false)] (BoxC W.heap.size c) (by kernel_rfl) (by kernel_rfl) (by decide) (by kernel_rfl) (fun d _ _ _ _ h => by cases d <;> exact h) (HBX.out _ _ HR1.out.drew) ?_
  iterate 6 ((apply wpOrd_take rfl rfl (by kernel_rfl); (intro V hV; have x0 : V.cell? ⟨W.heap.size, 1, none⟩ = some (.int .u64 c.loc) := (cell_of_row _ _ 1 _ _ _ hV).trans rfl; go_simp; rfl)); (try simp only [List.setIfInBounds_toArray, List.set_cons_succ, List.set_cons_zero]))
  apply wpOrd_do rfl (by kernel_rfl)
  intro K hK
  go_simp
  refine (one_any p (o + 1) a.loc c.loc _ ((cell_of_row _ _ (o + 1) _ _ _ HR1.out.drew.row).trans (by simp [Array.getElem?_setIfInBounds, D1.out])) (frozen_of_row _ _ (o + 1) _ _ HR1.out.drew.row) A1.out B1.out).mono ?_
  rintro e V2 ⟨rfl, hV⟩
  have HR2 := Lib.hid (HR1.out.drew.set (o + 1) (.int .u64 (sat a.loc c.loc)))
  rw [hV] at HR2
  refine hK _ _ (HBX.out _ _ HR2.out) ?_
  clear hK K hV HR1
  refine wpOrd_nil ?_
  go_wp2_with fail
  refine wp_region_ord [(0, true), (1, true), (2, true), (3, true), (4, true), (5, true), (6, false)] (BoxC W.heap.size c) (by kernel_rfl) (by kernel_rfl) (by decide) (by kernel_rfl) (fun d _ _ _ _ h => by cases d <;> exact h) (HBX.out _ _ HR2.out.drew) ?_
  iterate 6 ((apply wpOrd_take rfl rfl (by kernel_rfl); (intro V hV; have x0 : V.cell? ⟨W.heap.size, 2, none⟩ = some (.int .u64 c.cop) := (cell_of_row _ _ 2 _ _ _ hV).trans rfl; go_simp; rfl)); (try simp only [List.setIfInBounds_toArray, List.set_cons_succ, List.set_cons_zero]))
  apply wpOrd_do rfl (by kernel_rfl)
  intro K hK
  go_simp
  refine (one_any p (o + 2) a.cop c.cop _ ((cell_of_row _ _ (o + 2) _ _ _ HR2.out.drew.row).trans (by simp [Array.getElem?_setIfInBounds, D2.out])) (frozen_of_row _ _ (o + 2) _ _ HR2.out.drew.row) A2.out B2.out).mono ?_
  rintro e V3 ⟨rfl, hV⟩
  have HR3 := Lib.hid (HR2.out.drew.set (o + 2) (.int .u64 (sat a.cop c.cop)))
  rw [hV] at HR3
  refine hK _ _ (HBX.out _ _ HR3.out) ?_
  clear hK K hV HR2
  refine wpOrd_nil ?_
  go_wp2_with fail
  refine wp_region_ord [(0, true), (1, true), (2, true), (3, true), (4, true), (5, true), (6, false)] (BoxC W.heap.size c) (by kernel_rfl) (by kernel_rfl) (by decide) (by kernel_rfl) (fun d _ _ _ _ h => by cases d <;> exact h) (HBX.out _ _ HR3.out.drew) ?_
  iterate 6 ((apply wpOrd_take rfl rfl (by kernel_rfl); (intro V hV; have x0 : V.cell? ⟨W.heap.size, 3, none⟩ = some (.int .u64 c.los) := (cell_of_row _ _ 3 _ _ _ hV).trans rfl; go_simp; rfl)); (try simp only [List.setIfInBounds_toArray, List.set_cons_succ, List.set_cons_zero]))
  apply wpOrd_do rfl (by kernel_rfl)
  intro K hK
  go_simp
  refine (one_any p (o + 3) a.los c.los _ ((cell_of_row _ _ (o + 3) _ _ _ HR3.out.drew.row).trans (by simp [Array.getElem?_setIfInBounds, D3.out])) (frozen_of_row _ _ (o + 3) _ _ HR3.out.drew.row) A3.out B3.out).mono ?_
  rintro e V4 ⟨rfl, hV⟩
  have HR4 := Lib.hid (HR3.out.drew.set (o + 3) (.int .u64 (sat a.los c.los)))
  rw [hV] at HR4
  refine hK _ _ (HBX.out _ _ HR4.out) ?_
  clear hK K hV HR3
  refine wpOrd_nil ?_
  go_wp2_with fail
  refine wp_region_ord [(0, true), (1, true), (2, true), (3, true), (4, true), (5, true), (6, false)] (BoxC W.heap.size c) (by kernel_rfl) (by kernel_rfl) (by decide) (by kernel_rfl) (fun d _ _ _ _ h => by cases d <;> exact h) (HBX.out _ _ HR4.out.drew) ?_
  iterate 6 ((apply wpOrd_take rfl rfl (by kernel_rfl); (intro V hV; have x0 : V.cell? ⟨W.heap.size, 4, none⟩ = some (.int .u64 c.exp) := (cell_of_row _ _ 4 _ _ _ hV).trans rfl; go_simp; rfl)); (try simp only [List.setIfInBounds_toArray, List.set_cons_succ, List.set_cons_zero]))
  apply wpOrd_do rfl (by kernel_rfl)
  intro K hK
  go_simp
  refine (one_any p (o + 4) a.exp c.exp _ ((cell_of_row _ _ (o + 4) _ _ _ HR4.out.drew.row).trans (by simp [Array.getElem?_setIfInBounds, D4.out])) (frozen_of_row _ _ (o + 4) _ _ HR4.out.drew.row) A4.out B4.out).mono ?_
  rintro e V5 ⟨rfl, hV⟩
  have HR5 := Lib.hid (HR4.out.drew.set (o + 4) (.int .u64 (sat a.exp c.exp)))
  rw [hV] at HR5
  refine hK _ _ (HBX.out _ _ HR5.out) ?_
  clear hK K hV HR4
  refine wpOrd_nil ?_
  go_wp2_with fail
  refine wp_region_ord [(0, true), (1, true), (2, true), (3, true), (4, true), (5, true), (6, false)] (BoxC W.heap.size c) (by kernel_rfl) (by kernel_rfl) (by decide) (by kernel_rfl) (fun d _ _ _ _ h => by cases d <;> exact h) (HBX.out _ _ HR5.out.drew) ?_
  iterate 6 ((apply wpOrd_take rfl rfl (by kernel_rfl); (intro V hV; have x0 : V.cell? ⟨W.heap.size, 5, none⟩ = some (.int .u64 c.bad) := (cell_of_row _ _ 5 _ _ _ hV).trans rfl; go_simp; rfl)); (try simp only [List.setIfInBounds_toArray, List.set_cons_succ, List.set_cons_zero]))
  apply wpOrd_do rfl (by kernel_rfl)
  intro K hK
  go_simp
  refine (one_any p (o + 5) a.bad c.bad _ ((cell_of_row _ _ (o + 5) _ _ _ HR5.out.drew.row).trans (by simp [Array.getElem?_setIfInBounds, D5.out])) (frozen_of_row _ _ (o + 5) _ _ HR5.out.drew.row) A5.out B5.out).mono ?_
  rintro e V6 ⟨rfl, hV⟩
  have HR6 := Lib.hid (HR5.out.drew.set (o + 5) (.int .u64 (sat a.bad c.bad)))
  rw [hV] at HR6
  refine hK _ _ (HBX.out _ _ HR6.out) ?_
  clear hK K hV HR5
  refine wpOrd_nil ?_
  go_wp2_with fail
  go_end0
  exact ⟨rfl, HEND.out _ _ HR6.out⟩

end Go.Proofs.Ytnfdkgmikijbgaa
