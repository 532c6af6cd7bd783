/- The walk of the law RecordKnown. -/
import Derived.Test.YtcdmmplmkgdejaaRecX
import Derived.Test.YtcdmmplmkgdejaaRegion3
import Derived.Laws.OwnMore
set_option linter.unusedSimpArgs false
set_option linter.unusedVariables false
namespace Go.Proofs.Ytcdmmplmkgdejaa
open Go.RowKit Go.ChangeShapes Go.WideShapes

theorem kn_dz (s : ByteArray) (W : World) (h0 : s.size ≤ 140737488355328 ∧ decR s.data.toList = Rc.zero ∧ decE s.data.toList = 4) : Calls Try.prog 11 #[.string s] W fun e W' => ∃ sa sc, e = .returned (.tuple #[.agg #[.int .i64 0, .int .u32 0, .int .u32 0, .int .i64 0, .bool false, .slice sa 0 sc], .int .i64 4]) ∧ Below W.heap.size W W' :=
  (decode_cells s W h0.1 Rc.zero 4 h0.2.1.symm h0.2.2.symm).mono fun _ _ ⟨sa, sc, h1, _, h2⟩ => ⟨sa, sc, h1, h2⟩
theorem kn_b1 : ((⟨#[1, 0, 0, 0, 1, 0, 0, 0, 2, 1, 2, 1, 1, 2, 0, 5]⟩ : ByteArray).extract 0 15).size ≤ 140737488355328 ∧ decR ((⟨#[1, 0, 0, 0, 1, 0, 0, 0, 2, 1, 2, 1, 1, 2, 0, 5]⟩ : ByteArray).extract 0 15).data.toList = Rc.zero ∧ decE ((⟨#[1, 0, 0, 0, 1, 0, 0, 0, 2, 1, 2, 1, 1, 2, 0, 5]⟩ : ByteArray).extract 0 15).data.toList = 4 := by decide +kernel
theorem kn_b2 : (⟨#[1, 0, 0, 0, 1, 0, 0, 0, 2, 1, 2, 1, 1, 2, 0, 5, 0]⟩ : ByteArray).size ≤ 140737488355328 ∧ decR (⟨#[1, 0, 0, 0, 1, 0, 0, 0, 2, 1, 2, 1, 1, 2, 0, 5, 0]⟩ : ByteArray).data.toList = Rc.zero ∧ decE (⟨#[1, 0, 0, 0, 1, 0, 0, 0, 2, 1, 2, 1, 1, 2, 0, 5, 0]⟩ : ByteArray).data.toList = 4 := by decide +kernel
theorem kn_b3 : ((⟨#[1, 0, 0, 0, 1, 0, 0, 0, 2, 1, 2, 1, 1, 2, 0, 5]⟩ : ByteArray).extract 0 11 ++ ⟨#[2]⟩ ++ (⟨#[1, 0, 0, 0, 1, 0, 0, 0, 2, 1, 2, 1, 1, 2, 0, 5]⟩ : ByteArray).extract 12 16).size ≤ 140737488355328 ∧ decR ((⟨#[1, 0, 0, 0, 1, 0, 0, 0, 2, 1, 2, 1, 1, 2, 0, 5]⟩ : ByteArray).extract 0 11 ++ ⟨#[2]⟩ ++ (⟨#[1, 0, 0, 0, 1, 0, 0, 0, 2, 1, 2, 1, 1, 2, 0, 5]⟩ : ByteArray).extract 12 16).data.toList = Rc.zero ∧ decE ((⟨#[1, 0, 0, 0, 1, 0, 0, 0, 2, 1, 2, 1, 1, 2, 0, 5]⟩ : ByteArray).extract 0 11 ++ ⟨#[2]⟩ ++ (⟨#[1, 0, 0, 0, 1, 0, 0, 0, 2, 1, 2, 1, 1, 2, 0, 5]⟩ : ByteArray).extract 12 16).data.toList = 4 := by decide +kernel
theorem kn_b4 : (⟨#[]⟩ : ByteArray).size ≤ 140737488355328 ∧ decR (⟨#[]⟩ : ByteArray).data.toList = Rc.zero ∧ decE (⟨#[]⟩ : ByteArray).data.toList = 4 := by decide +kernel
def GCr (F : FuncId) (xs : Array Value) (Q : Value) : Prop := ∀ W, Calls Try.prog F xs W fun e W' => e = .returned Q ∧ Below W.heap.size W W'
theorem kn_e1 : GCr 24 #[.agg #[.int .i64 3, .int .u32 1, .int .u32 1]] (.tuple #[.string ⟨#[3, 0, 0, 0, 1, 0, 0, 0, 1]⟩, .int .i64 0]) := fun W => by
  have h := encst_any ⟨3, 1, 1⟩ W ⟨by simp only; omega, by simp only; omega, by simp only; omega⟩
  rw [show St.encS ⟨3, 1, 1⟩ = ⟨#[3, 0, 0, 0, 1, 0, 0, 0, 1]⟩ from by
    have h1 : (St.encS ⟨3, 1, 1⟩).data.toList = [3, 0, 0, 0, 1, 0, 0, 0, 1] := by decide +kernel
    rw [← bs_of (St.encS ⟨3, 1, 1⟩), h1]
    rfl, show St.encE ⟨3, 1, 1⟩ = 0 from by decide +kernel] at h
  exact h
theorem kn_e2 : GCr 24 #[.agg #[.int .i64 0, .int .u32 1, .int .u32 1]] (.tuple #[.string ⟨#[]⟩, .int .i64 2]) := fun W => by
  have h := encst_any ⟨0, 1, 1⟩ W ⟨by simp only; omega, by simp only; omega, by simp only; omega⟩
  rw [show St.encS ⟨0, 1, 1⟩ = ⟨#[]⟩ from by
    have h1 : (St.encS ⟨0, 1, 1⟩).data.toList = [] := by decide +kernel
    rw [← bs_of (St.encS ⟨0, 1, 1⟩), h1]
    rfl, show St.encE ⟨0, 1, 1⟩ = 2 from by decide +kernel] at h
  exact h
theorem kn_s1 : GCr 23 #[.string ⟨#[3, 0, 0, 0, 1, 0, 0, 0, 1]⟩] (.tuple #[.agg #[.int .i64 3, .int .u32 1, .int .u32 1], .int .i64 0]) := fun W => decst_cells ⟨#[3, 0, 0, 0, 1, 0, 0, 0, 1]⟩ W (by decide) ⟨3, 1, 1⟩ 0 (by decide +kernel) (by decide +kernel)
theorem kn_s2 : GCr 23 #[.string ⟨#[3, 0, 0, 0, 0, 0, 0, 0, 1]⟩] (.tuple #[.agg #[.int .i64 0, .int .u32 0, .int .u32 0], .int .i64 4]) := fun W => decst_cells ⟨#[3, 0, 0, 0, 0, 0, 0, 0, 1]⟩ W (by decide) ⟨0, 0, 0⟩ 4 (by decide +kernel) (by decide +kernel)
theorem kn_n1 : GCr 25 #[.agg #[.int .i64 0, .int .u32 1, .int .u32 9], .agg #[.int .i64 0, .int .u32 2, .int .u32 1]] (.int .i64 (-1)) := fun W => by
  have h := newer_any ⟨0, 1, 9⟩ ⟨0, 2, 1⟩ W
  rw [show nw ⟨0, 1, 9⟩ ⟨0, 2, 1⟩ = -1 from by decide +kernel] at h
  exact h
theorem kn_n2 : GCr 25 #[.agg #[.int .i64 5, .int .u32 0, .int .u32 0], .agg #[.int .i64 0, .int .u32 0, .int .u32 0]] (.int .i64 0) := fun W => by
  have h := newer_any ⟨5, 0, 0⟩ ⟨0, 0, 0⟩ W
  rw [show nw ⟨5, 0, 0⟩ ⟨0, 0, 0⟩ = 0 from by decide +kernel] at h
  exact h
theorem kn_n3 : GCr 25 #[.agg #[.int .i64 0, .int .u32 2, .int .u32 3], .agg #[.int .i64 0, .int .u32 2, .int .u32 2]] (.int .i64 1) := fun W => by
  have h := newer_any ⟨0, 2, 3⟩ ⟨0, 2, 2⟩ W
  rw [show nw ⟨0, 2, 3⟩ ⟨0, 2, 2⟩ = 1 from by decide +kernel] at h
  exact h
theorem kn_one : GCr 18 #[.agg #[.int .i64 1, .int .u32 1, .int .u32 1, .int .i64 0, .bool false, .slice none 0 0]] (.int .i64 0) := fun W => by
  have h := check_any ⟨1, 1, 1, 0, false, []⟩ none 0 W (fun i hi => absurd hi (by simp)) (by simp [maxLen])
  rw [show Rc.err ⟨1, 1, 1, 0, false, []⟩ = 0 from by decide +kernel] at h
  exact h

def wrongC (b : Nat) : Array Value := #[.int .i64 0, .int .u32 0, .int .u32 0, .int .i64 0, .bool false, .slice none 0 0, .int .i64 1, .int .u32 0, .int .u32 1, .int .i64 0, .bool false, .slice none 0 0, .int .i64 1, .int .u32 1, .int .u32 0, .int .i64 0, .bool false, .slice none 0 0, .int .i64 25, .int .u32 1, .int .u32 1, .int .i64 0, .bool false, .slice none 0 0, .int .i64 1, .int .u32 1, .int .u32 1, .int .i64 1025, .bool false, .slice none 0 0, .int .i64 1, .int .u32 1, .int .u32 1, .int .i64 (-1), .bool false, .slice none 0 0, .int .i64 1, .int .u32 1, .int .u32 1, .int .i64 0, .bool false, .slice (some ⟨b + 1 + 1, 0, none⟩) 2 2, .int .i64 1, .int .u32 1, .int .u32 1, .int .i64 0, .bool false, .slice (some ⟨b + 1 + 1 + 1, 0, none⟩) 1 1, .int .i64 1, .int .u32 1, .int .u32 1, .int .i64 0, .bool false, .slice (some ⟨b + 1 + 1 + 1 + 1, 0, none⟩) 17 17]
/-- What is there while the nine are tried. -/
structure KnS (W : World) (b S : Nat) (V : World) : Prop where
  one : BoxR (b + 1) ⟨1, 1, 1, 0, false, []⟩ none 0 V
  a1 : AdjsIn V (some ⟨b + 1 + 1, 0, none⟩) [(3, 1), (2, 1)]
  a2 : AdjsIn V (some ⟨b + 1 + 1 + 1, 0, none⟩) [(1, 1)]
  a3 : AdjsIn V (some ⟨b + 1 + 1 + 1 + 1, 0, none⟩) (List.replicate 17 (0, 0))
  s : V.heap[S]? = some (.cells (wrongC b) 25 (0, 0))
  bel : Below W.heap.size W V
theorem KnS.later {W V X : World} {b S : Nat} (h : KnS W b S V) (hb : Below V.heap.size V X) : KnS W b S X := ⟨h.one.later hb, h.a1.later hb, h.a2.later hb, h.a3.later hb, (hb.block _ (Array.getElem?_eq_some_iff.1 h.s).1).trans h.s, h.bel.trans (hb.mono h.bel.size)⟩
theorem KnS.get {W V : World} {b S : Nat} (h : KnS W b S V) {k : Nat} (hk : k < 9) : ∃ (r : Rc) (sa : Option Addr) (sc : Nat), V.cell? ⟨S, k * 6, none⟩ = some (.int .i64 r.org) ∧ V.cell? ⟨S, k * 6 + 1, none⟩ = some (.int .u32 r.ep) ∧ V.cell? ⟨S, k * 6 + 2, none⟩ = some (.int .u32 r.sq) ∧ V.cell? ⟨S, k * 6 + 3, none⟩ = some (.int .i64 r.clm) ∧
    V.cell? ⟨S, k * 6 + 4, none⟩ = some (.bool r.ing) ∧ V.cell? ⟨S, k * 6 + 5, none⟩ = some (.slice sa r.adjs.length sc) ∧ AdjsIn V sa r.adjs ∧ r.err = 2 ∧ r.adjs.length ≤ maxLen := by
  obtain rfl | rfl | rfl | rfl | rfl | rfl | rfl | rfl | rfl : k = 0 ∨ k = 1 ∨ k = 2 ∨ k = 3 ∨ k = 4 ∨ k = 5 ∨ k = 6 ∨ k = 7 ∨ k = 8 := by omega
  · exact ⟨⟨0, 0, 0, 0, false, []⟩, none, 0, (cell_of_row _ _ 0 _ _ _ h.s).trans rfl, (cell_of_row _ _ 1 _ _ _ h.s).trans rfl, (cell_of_row _ _ 2 _ _ _ h.s).trans rfl, (cell_of_row _ _ 3 _ _ _ h.s).trans rfl, (cell_of_row _ _ 4 _ _ _ h.s).trans rfl, (cell_of_row _ _ 5 _ _ _ h.s).trans rfl, (fun i hi => absurd hi (by simp)), by decide +kernel, by decide⟩
  · exact ⟨⟨1, 0, 1, 0, false, []⟩, none, 0, (cell_of_row _ _ 6 _ _ _ h.s).trans rfl, (cell_of_row _ _ 7 _ _ _ h.s).trans rfl, (cell_of_row _ _ 8 _ _ _ h.s).trans rfl, (cell_of_row _ _ 9 _ _ _ h.s).trans rfl, (cell_of_row _ _ 10 _ _ _ h.s).trans rfl, (cell_of_row _ _ 11 _ _ _ h.s).trans rfl, (fun i hi => absurd hi (by simp)), by decide +kernel, by decide⟩
  · exact ⟨⟨1, 1, 0, 0, false, []⟩, none, 0, (cell_of_row _ _ 12 _ _ _ h.s).trans rfl, (cell_of_row _ _ 13 _ _ _ h.s).trans rfl, (cell_of_row _ _ 14 _ _ _ h.s).trans rfl, (cell_of_row _ _ 15 _ _ _ h.s).trans rfl, (cell_of_row _ _ 16 _ _ _ h.s).trans rfl, (cell_of_row _ _ 17 _ _ _ h.s).trans rfl, (fun i hi => absurd hi (by simp)), by decide +kernel, by decide⟩
  · exact ⟨⟨25, 1, 1, 0, false, []⟩, none, 0, (cell_of_row _ _ 18 _ _ _ h.s).trans rfl, (cell_of_row _ _ 19 _ _ _ h.s).trans rfl, (cell_of_row _ _ 20 _ _ _ h.s).trans rfl, (cell_of_row _ _ 21 _ _ _ h.s).trans rfl, (cell_of_row _ _ 22 _ _ _ h.s).trans rfl, (cell_of_row _ _ 23 _ _ _ h.s).trans rfl, (fun i hi => absurd hi (by simp)), by decide +kernel, by decide⟩
  · exact ⟨⟨1, 1, 1, 1025, false, []⟩, none, 0, (cell_of_row _ _ 24 _ _ _ h.s).trans rfl, (cell_of_row _ _ 25 _ _ _ h.s).trans rfl, (cell_of_row _ _ 26 _ _ _ h.s).trans rfl, (cell_of_row _ _ 27 _ _ _ h.s).trans rfl, (cell_of_row _ _ 28 _ _ _ h.s).trans rfl, (cell_of_row _ _ 29 _ _ _ h.s).trans rfl, (fun i hi => absurd hi (by simp)), by decide +kernel, by decide⟩
  · exact ⟨⟨1, 1, 1, -1, false, []⟩, none, 0, (cell_of_row _ _ 30 _ _ _ h.s).trans rfl, (cell_of_row _ _ 31 _ _ _ h.s).trans rfl, (cell_of_row _ _ 32 _ _ _ h.s).trans rfl, (cell_of_row _ _ 33 _ _ _ h.s).trans rfl, (cell_of_row _ _ 34 _ _ _ h.s).trans rfl, (cell_of_row _ _ 35 _ _ _ h.s).trans rfl, (fun i hi => absurd hi (by simp)), by decide +kernel, by decide⟩
  · exact ⟨⟨1, 1, 1, 0, false, [(3, 1), (2, 1)]⟩, (some ⟨b + 1 + 1, 0, none⟩), 2, (cell_of_row _ _ 36 _ _ _ h.s).trans rfl, (cell_of_row _ _ 37 _ _ _ h.s).trans rfl, (cell_of_row _ _ 38 _ _ _ h.s).trans rfl, (cell_of_row _ _ 39 _ _ _ h.s).trans rfl, (cell_of_row _ _ 40 _ _ _ h.s).trans rfl, (cell_of_row _ _ 41 _ _ _ h.s).trans rfl, h.a1, by decide +kernel, by decide⟩
  · exact ⟨⟨1, 1, 1, 0, false, [(1, 1)]⟩, (some ⟨b + 1 + 1 + 1, 0, none⟩), 1, (cell_of_row _ _ 42 _ _ _ h.s).trans rfl, (cell_of_row _ _ 43 _ _ _ h.s).trans rfl, (cell_of_row _ _ 44 _ _ _ h.s).trans rfl, (cell_of_row _ _ 45 _ _ _ h.s).trans rfl, (cell_of_row _ _ 46 _ _ _ h.s).trans rfl, (cell_of_row _ _ 47 _ _ _ h.s).trans rfl, h.a2, by decide +kernel, by decide⟩
  · exact ⟨⟨1, 1, 1, 0, false, (List.replicate 17 (0, 0))⟩, (some ⟨b + 1 + 1 + 1 + 1, 0, none⟩), 17, (cell_of_row _ _ 48 _ _ _ h.s).trans rfl, (cell_of_row _ _ 49 _ _ _ h.s).trans rfl, (cell_of_row _ _ 50 _ _ _ h.s).trans rfl, (cell_of_row _ _ 51 _ _ _ h.s).trans rfl, (cell_of_row _ _ 52 _ _ _ h.s).trans rfl, (cell_of_row _ _ 53 _ _ _ h.s).trans rfl, h.a3, by decide +kernel, by decide⟩
def KnRel (W : World) (b S : Nat) (i : Value) (wr : World) : Prop := ∃ k : Nat, i = .int .i64 k ∧ k ≤ 9 ∧ KnS W b S wr
theorem row_adjs {V : World} {B g n cap : Nat} {xs : List (Int × Int)} (h : Row V B 31 2 (.slice (some ⟨g, 0, none⟩) n cap) n (adjV xs)) (hn : xs.length = n) (h0 : 0 < n) : AdjsIn V (some ⟨g, 0, none⟩) xs := fun i hi => by
  obtain ⟨g', cap', hv, _, _, _, _, hc, _⟩ := Row.form h h0
  simp only [Value.slice.injEq, Option.some.injEq, Addr.mk.injEq, and_true, true_and] at hv
  obtain ⟨rfl, rfl⟩ := hv
  obtain ⟨h1, h2⟩ := adjV_get xs i hi
  refine ⟨_, rfl, ?_, ?_⟩
  · rw [Addr.add_mid, Nat.zero_add, hc _ (by omega)]; exact h1
  · rw [Addr.add_mid, Nat.zero_add]
    show V.cell? ⟨g, i * 2 + 1, none⟩ = _
    rw [hc _ (by omega)]; exact h2

set_option maxRecDepth 100000 in
set_option maxHeartbeats 12800000 in
theorem recordKnown_walk (W : World) : Calls Try.prog 10 #[] W fun e W' => e = .returned (.bool true) ∧ Below W.heap.size W W' := by
  go_enter Try.func10, Try.ntmps10
  go_wp2_with fail
  refine (kn_dz _ _ kn_b1).mono ?_
  rintro e V1 ⟨sa1, sc1, rfl, hb⟩
  obtain ⟨X1, hX1⟩ : ∃ X, X = V1.alloc (.cells #[.int .i64 0, .int .u32 0, .int .u32 0, .int .i64 0, .bool false, .slice sa1 0 sc1] 25) := ⟨_, rfl⟩
  have HB1 := Lib.hid (show Below W.heap.size W X1 by rw [hX1]; exact hb.alloc hb.size _)
  have HX1 := Lib.hid hX1
  clear hb hX1
  go_wp2_with fail
  rw [← HX1.out]
  refine (kn_dz _ _ kn_b2).mono ?_
  rintro e V2 ⟨sa2, sc2, rfl, hb⟩
  obtain ⟨X2, hX2⟩ : ∃ X, X = V2.alloc (.cells #[.int .i64 0, .int .u32 0, .int .u32 0, .int .i64 0, .bool false, .slice sa2 0 sc2] 25) := ⟨_, rfl⟩
  have HB2 := Lib.hid (show Below W.heap.size W X2 by
    have h2 := HB1.out.trans (hb.mono HB1.out.size)
    rw [hX2]; exact h2.alloc h2.size _)
  obtain ⟨U, hU⟩ : ∃ U, U = X2.drew := ⟨_, rfl⟩
  have HBU := Lib.hid (show Below W.heap.size W U by rw [hU]; exact HB2.out.trans ⟨rfl, rfl, rfl, Nat.le_refl _, fun _ _ => rfl⟩)
  have HX2 := Lib.hid hX2
  have HU := Lib.hid hU
  clear hb hX2 hU
  go_wp2_with fail
  rw [← HX2.out]
  refine wp_region_tree (.look 0 (.look 1 (.look 2 (.look 3 (.two 4 (.look 5 (.look 6 (.look 7 (.one 8 (.one 9 (.look 10 .nil)))))) 8 (.one 4 (.look 5 (.look 6 (.look 7 (.one 9 (.look 10 .nil))))))))))) (fun V => Below W.heap.size W V) (by kernel_rfl) (by kernel_rfl) (by decide) (by kernel_rfl) (fun d _ _ _ _ h => by cases d <;> exact h) (by rw [← HU.out]; exact HBU.out) ?_
  rw [← HU.out]
  iterate 4 ((apply wpOT_take rfl rfl (by kernel_rfl); (intro V _; go_simp; rfl)); (try simp only [List.setIfInBounds_toArray, List.set_cons_succ, List.set_cons_zero]))
  apply wpOT_two
  · apply wpOT_do rfl (by kernel_rfl)
    intro K hK
    go_simp
    refine (kn_dz _ _ kn_b3).mono ?_
    rintro e V3 ⟨sa3, sc3, rfl, hb⟩
    have HB3 := Lib.hid (HBU.out.trans (hb.mono HBU.out.size))
    refine hK _ _ HB3.out ?_
    clear hK K hb
    iterate 3 ((apply wpOT_take rfl rfl (by kernel_rfl); (intro V _; go_simp; rfl)); (try simp only [List.setIfInBounds_toArray, List.set_cons_succ, List.set_cons_zero]))
    apply wpOT_do rfl (by kernel_rfl)
    intro K hK
    go_simp
    obtain ⟨X3, hX3⟩ : ∃ X, X = V3.alloc (.cells #[.int .i64 0, .int .u32 0, .int .u32 0, .int .i64 0, .bool false, .slice none 0 0] 25) := ⟨_, rfl⟩
    obtain ⟨g3, hg3⟩ : ∃ g, g = V3.heap.size := ⟨_, rfl⟩
    have HB4 := Lib.hid (show Below W.heap.size W X3 by rw [hX3]; exact HB3.out.alloc HB3.out.size _)
    have hbx : BoxR g3 Rc.zero none 0 X3 := by rw [hX3, hg3]; exact heap_alloc_new _ _
    have HGT := Lib.hid (show W.heap.size ≤ g3 by rw [hg3]; exact HB3.out.size)
    rw [← hX3, ← hg3]
    refine hK _ _ HB4.out ?_
    clear hK K hX3 hg3
    apply wpOT_do rfl (by kernel_rfl)
    intro K hK
    obtain ⟨x0, x1, x2, x3, x4, x5⟩ := hbx.cells
    have k0 : X3.frozen? ⟨g3, 0, none⟩ = false := frozen_of_row _ _ _ _ _ hbx
    have k1 : X3.frozen? ⟨g3, 1, none⟩ = false := frozen_of_row _ _ _ _ _ hbx
    have k2 : X3.frozen? ⟨g3, 2, none⟩ = false := frozen_of_row _ _ _ _ _ hbx
    have k3 : X3.frozen? ⟨g3, 3, none⟩ = false := frozen_of_row _ _ _ _ _ hbx
    have k4 : X3.frozen? ⟨g3, 4, none⟩ = false := frozen_of_row _ _ _ _ _ hbx
    have k5 : X3.frozen? ⟨g3, 5, none⟩ = false := frozen_of_row _ _ _ _ _ hbx
    go_simp
    obtain ⟨U3, hU3⟩ : ∃ U, U = (((((X3.setCell ⟨g3, 0, none⟩ (.int .i64 0)).setCell ⟨g3, 1, none⟩ (.int .u32 0)).setCell ⟨g3, 2, none⟩ (.int .u32 0)).setCell ⟨g3, 3, none⟩ (.int .i64 0)).setCell ⟨g3, 4, none⟩ (.bool false)).setCell ⟨g3, 5, none⟩ (.slice sa3 0 sc3) := ⟨_, rfl⟩
    have HB5 := Lib.hid (show Below W.heap.size W U3 by
      rw [hU3]
      have hgt := HGT.out
      repeat (with_reducible refine Below.setCell ?_ (by simp only; omega) _)
      exact HB4.out)
    rw [← hU3]
    refine hK _ _ HB5.out ?_
    clear hK K hU3 x0 x1 x2 x3 x4 x5 k0 k1 k2 k3 k4 k5 hbx
    iterate 1 ((apply wpOT_take rfl rfl (by kernel_rfl); (intro V _; go_simp; rfl)); (try simp only [List.setIfInBounds_toArray, List.set_cons_succ, List.set_cons_zero]))
    refine wpOT_nil ?_
    go_wp2_with fail
    refine (kn_dz _ _ kn_b4).mono ?_
    rintro e V4 ⟨sa4, sc4, rfl, hb⟩
    have HB6 := Lib.hid (HB5.out.trans (hb.mono HB5.out.size))
    obtain ⟨i0, hi, hz0, hz1, hz2⟩ := info_parts infoA
    clear hb
    go_wp2_with (at_make; refine wpList_make_full _ rfl (.const (.int .i64 17)) (.const (.int .i64 17)) 23 rfl W.heap.size 31 i0 (.agg #[.int .i64 0, .int .i64 0]) 2 Try.underlying23 hi hz0 hz1 .i64 .i64 17 17 17 rfl rfl rfl rfl ?c1 ?c2 ?c3 ?_)
    case c1 => rw [hz2]; decide
    case c2 => decide
    case c3 => simp only [World.size_alloc]; have := HB6.out.size; omega
    intro w3 hown3 hg3
    obtain ⟨Y1, hY1⟩ : ∃ Y, Y = V4.alloc (.cells #[.int .i64 0, .int .u32 0, .int .u32 0, .int .i64 0, .bool false, .slice sa4 0 sc4] 25) := ⟨_, rfl⟩
    obtain ⟨Y2, hY2⟩ : ∃ Y, Y = Y1.alloc (.cells #[.int .i64 1, .int .u32 1, .int .u32 1, .int .i64 0, .bool false, .slice none 0 0] 25) := ⟨_, rfl⟩
    obtain ⟨Y3, hY3⟩ : ∃ Y, Y = Y2.alloc (.cells #[.int .i64 3, .int .i64 1, .int .i64 2, .int .i64 1] 31) := ⟨_, rfl⟩
    obtain ⟨Y4, hY4⟩ : ∃ Y, Y = Y3.alloc (.cells #[.int .i64 1, .int .i64 1] 31) := ⟨_, rfl⟩
    rw [← hY1, ← hY2, ← hY3, ← hY4] at hg3
    have z1 : Y1.heap.size = V4.heap.size + 1 := by rw [hY1, World.size_alloc]
    have z2 : Y2.heap.size = V4.heap.size + 1 + 1 := by rw [hY2, World.size_alloc, z1]
    have z3 : Y3.heap.size = V4.heap.size + 1 + 1 + 1 := by rw [hY3, World.size_alloc, z2]
    have b1 : Below V4.heap.size V4 Y1 := by rw [hY1]; exact (Below.refl _ _).alloc (Nat.le_refl _) _
    have b2 : Below Y1.heap.size Y1 Y2 := by rw [hY2]; exact (Below.refl _ _).alloc (Nat.le_refl _) _
    have b3 : Below Y2.heap.size Y2 Y3 := by rw [hY3]; exact (Below.refl _ _).alloc (Nat.le_refl _) _
    have b4 : Below Y3.heap.size Y3 Y4 := by rw [hY4]; exact (Below.refl _ _).alloc (Nat.le_refl _) _
    have b5 : Below Y4.heap.size Y4 w3 := ⟨hg3.os, hg3.tape, hg3.output, hg3.size, fun k hk => hg3.block k hk (by simp)⟩
    have o2 : BoxR (V4.heap.size + 1) ⟨1, 1, 1, 0, false, []⟩ none 0 Y2 := by rw [hY2, ← z1]; exact heap_alloc_new _ _
    have p3 : AdjsIn Y3 (some ⟨V4.heap.size + 1 + 1, 0, none⟩) [(3, 1), (2, 1)] := by rw [hY3, ← z2]; exact adjs_lit Y2 [(3, 1), (2, 1)]
    have p4 : AdjsIn Y4 (some ⟨V4.heap.size + 1 + 1 + 1, 0, none⟩) [(1, 1)] := by rw [hY4, ← z3]; exact adjs_lit Y3 [(1, 1)]
    have hrow := Row.of_own hown3
    have ev : (madeCells #[Value.int .i64 0, Value.int .i64 0] 34).toList = adjV (List.replicate 17 (0, 0)) := by first | rfl | kernel_rfl | decide +kernel
    rw [ev] at hrow
    have p5 : AdjsIn w3 (some ⟨V4.heap.size + 1 + 1 + 1 + 1, 0, none⟩) (List.replicate 17 (0, 0)) := row_adjs (cap := 17) (n := 17) (xs := List.replicate 17 (0, 0)) hrow (by decide) (by decide)
    have hbw : Below W.heap.size W w3 := by
      have h1 := HB6.out.trans (b1.mono HB6.out.size)
      have h2 := h1.trans (b2.mono h1.size)
      have h3 := h2.trans (b3.mono h2.size)
      have h4 := h3.trans (b4.mono h3.size)
      exact h4.trans (b5.mono h4.size)
    obtain ⟨S, hS⟩ : ∃ S, S = w3.heap.size := ⟨_, rfl⟩
    obtain ⟨VL, hVL⟩ : ∃ V, V = w3.alloc (.cells #[.int .i64 0, .int .u32 0, .int .u32 0, .int .i64 0, .bool false, .slice none 0 0, .int .i64 1, .int .u32 0, .int .u32 1, .int .i64 0, .bool false, .slice none 0 0, .int .i64 1, .int .u32 1, .int .u32 0, .int .i64 0, .bool false, .slice none 0 0, .int .i64 25, .int .u32 1, .int .u32 1, .int .i64 0, .bool false, .slice none 0 0, .int .i64 1, .int .u32 1, .int .u32 1, .int .i64 1025, .bool false, .slice none 0 0, .int .i64 1, .int .u32 1, .int .u32 1, .int .i64 (-1), .bool false, .slice none 0 0, .int .i64 1, .int .u32 1, .int .u32 1, .int .i64 0, .bool false, .slice (some ⟨V4.heap.size + 1 + 1, 0, none⟩) 2 2, .int .i64 1, .int .u32 1, .int .u32 1, .int .i64 0, .bool false, .slice (some ⟨V4.heap.size + 1 + 1 + 1, 0, none⟩) 1 1, .int .i64 1, .int .u32 1, .int .u32 1, .int .i64 0, .bool false, .slice (some ⟨V4.heap.size + 1 + 1 + 1 + 1, 0, none⟩) 17 17] 25) := ⟨_, rfl⟩
    have b6 : Below w3.heap.size w3 VL := by rw [hVL]; exact (Below.refl _ _).alloc (Nat.le_refl _) _
    have HL0 := Lib.hid (show KnRel W V4.heap.size S (.int .i64 0) VL from ⟨0, rfl, by omega, (((o2.later b3).later b4).later b5).later b6, ((p3.later b4).later b5).later b6, (p4.later b5).later b6, p5.later b6, by rw [hVL, hS]; exact heap_alloc_new _ _, hbw.trans (b6.mono hbw.size)⟩)
    have HVL := Lib.hid hVL
    have HSS := Lib.hid hS
    clear hown3 hg3 hrow hY1 hY2 hY3 hY4 z1 z2 z3 b1 b2 b3 b4 b5 b6 o2 p3 p4 p5 hbw hS hVL hi hz0 hz1 hz2
    go_wp2_with fail
    rw [← HVL.out, ← HSS.out]
    clear HVL
    go_loopw [11] (fun i wr => KnRel W V4.heap.size S i wr) (fun i _ => 20 - (intOf i).toNat)
    case atStart => exact HL0.out
    case round =>
      obtain ⟨k, rfl, hk9, hs⟩ := hrel
      by_cases hlt : k < 9
      · obtain ⟨r, sa, sc, x0, x1, x2, x3, x4, x5, hA, he, hl⟩ := hs.get hlt
        have HT := Lib.hid hs
        have HCK := Lib.hid (check_any r sa sc wr hA hl)
        have HER := Lib.hid he
        unfold maxLen at hl
        unfold Rc.ag Rc.cs at HCK
        clear hs hA he
        go_wp2_with fail
        refine HCK.out.mono ?_
        rintro e V ⟨rfl, hb⟩
        rw [HER.out]
        have HT2 := Lib.hid (HT.out.later hb)
        clear hb x0 x1 x2 x3 x4 x5
        go_wp2_with fail
        case roundEnd =>
          refine ⟨⟨k + 1, by simp, by omega, HT2.out⟩, ?_⟩
          simp only [intOf]
          omega
      · obtain rfl : k = 9 := by omega
        have HT := Lib.hid hs
        clear hs
        go_wp2_with fail
        refine (kn_e1 _).mono ?_
        rintro e V5 ⟨rfl, hb⟩
        have HT5 := Lib.hid (HT.out.later hb)
        clear hb
        go_wp2_with fail
        refine (kn_s1 _).mono ?_
        rintro e V6 ⟨rfl, hb⟩
        have HT6 := Lib.hid (HT5.out.later hb)
        clear hb
        obtain ⟨p, hp⟩ : ∃ p, p = V6.heap.size := ⟨_, rfl⟩
        obtain ⟨X6, hX6⟩ : ∃ X, X = V6.alloc (.cells #[.int .i64 3, .int .u32 1, .int .u32 1] 39) := ⟨_, rfl⟩
        have hbX : Below V6.heap.size V6 X6 := by rw [hX6]; exact (Below.refl _ _).alloc (Nat.le_refl _) _
        have HT7 := Lib.hid (HT6.out.later hbX)
        have HP7 := Lib.hid (show BoxS p ⟨3, 1, 1⟩ X6 by rw [hX6, hp]; exact heap_alloc_new _ _)
        have HX6 := Lib.hid hX6
        have HP := Lib.hid hp
        clear hbX hX6 hp
        go_wp2_with fail
        rw [← HX6.out, ← HP.out]
        refine (kn_e2 _).mono ?_
        rintro e V7 ⟨rfl, hb⟩
        have HT8 := Lib.hid (HT7.out.later hb)
        have HP8 := Lib.hid (HP7.out.later hb)
        clear hb
        go_wp2_with fail
        refine (kn_s2 _).mono ?_
        rintro e V8 ⟨rfl, hb⟩
        obtain ⟨X8, hX8⟩ : ∃ X, X = V8.alloc (.cells #[.int .i64 0, .int .u32 0, .int .u32 0] 39) := ⟨_, rfl⟩
        have hbX : Below V8.heap.size V8 X8 := by rw [hX8]; exact (Below.refl _ _).alloc (Nat.le_refl _) _
        have HT9 := Lib.hid ((HT8.out.later hb).later hbX)
        have HP9 := Lib.hid ((HP8.out.later hb).later hbX)
        have HX8 := Lib.hid hX8
        clear hb hbX hX8
        go_wp2_with fail
        rw [← HX8.out]
        refine (works_any _).mono ?_
        rintro e V9 ⟨rfl, hb⟩
        have HT10 := Lib.hid (HT9.out.later hb)
        have HP10 := Lib.hid (HP9.out.later hb)
        clear hb
        obtain ⟨x0, x1, x2, x3, x4, x5⟩ := BoxR.cells HT10.out.one
        simp only [List.length_nil] at x5
        go_wp2_with fail
        refine (kn_one _).mono ?_
        rintro e VA ⟨rfl, hb⟩
        have HT11 := Lib.hid (HT10.out.later hb)
        have HP11 := Lib.hid (HP10.out.later hb)
        clear hb x0 x1 x2 x3 x4 x5
        go_wp2_with fail
        refine (kn_n1 _).mono ?_
        rintro e VB ⟨rfl, hb⟩
        have HT12 := Lib.hid (HT11.out.later hb)
        have HP12 := Lib.hid (HP11.out.later hb)
        clear hb
        go_wp2_with fail
        refine (kn_n2 _).mono ?_
        rintro e VC ⟨rfl, hb⟩
        have HT13 := Lib.hid (HT12.out.later hb)
        have HP13 := Lib.hid (HP12.out.later hb)
        clear hb
        go_wp2_with fail
        refine (kn_n3 _).mono ?_
        rintro e VD ⟨rfl, hb⟩
        have HT14 := Lib.hid (HT13.out.later hb)
        obtain ⟨x0, x1, x2⟩ := BoxS.cells (HP13.out.later hb)
        clear hb
        go_wp2_with fail
        go_returns
        exact ⟨rfl, HT14.out.bel⟩
  · apply wpOT_do rfl (by kernel_rfl)
    intro K hK
    go_simp
    obtain ⟨X3, hX3⟩ : ∃ X, X = U.alloc (.cells #[.int .i64 0, .int .u32 0, .int .u32 0, .int .i64 0, .bool false, .slice none 0 0] 25) := ⟨_, rfl⟩
    obtain ⟨g3, hg3⟩ : ∃ g, g = U.heap.size := ⟨_, rfl⟩
    have HB3 := Lib.hid (show Below W.heap.size W X3 by rw [hX3]; exact HBU.out.alloc HBU.out.size _)
    have hbx0 : BoxR g3 Rc.zero none 0 X3 := by rw [hX3, hg3]; exact heap_alloc_new _ _
    have HGT := Lib.hid (show W.heap.size ≤ g3 by rw [hg3]; exact HBU.out.size)
    rw [← hX3, ← hg3]
    refine hK _ _ HB3.out ?_
    clear hK K hX3 hg3
    apply wpOT_do rfl (by kernel_rfl)
    intro K hK
    go_simp
    refine (kn_dz _ _ kn_b3).mono ?_
    rintro e V3 ⟨sa3, sc3, rfl, hb⟩
    have HB4 := Lib.hid (HB3.out.trans (hb.mono HB3.out.size))
    have hbx := hbx0.later hb
    refine hK _ _ HB4.out ?_
    clear hK K hb hbx0
    iterate 3 ((apply wpOT_take rfl rfl (by kernel_rfl); (intro V _; go_simp; rfl)); (try simp only [List.setIfInBounds_toArray, List.set_cons_succ, List.set_cons_zero]))
    apply wpOT_do rfl (by kernel_rfl)
    intro K hK
    obtain ⟨x0, x1, x2, x3, x4, x5⟩ := hbx.cells
    have k0 : V3.frozen? ⟨g3, 0, none⟩ = false := frozen_of_row _ _ _ _ _ hbx
    have k1 : V3.frozen? ⟨g3, 1, none⟩ = false := frozen_of_row _ _ _ _ _ hbx
    have k2 : V3.frozen? ⟨g3, 2, none⟩ = false := frozen_of_row _ _ _ _ _ hbx
    have k3 : V3.frozen? ⟨g3, 3, none⟩ = false := frozen_of_row _ _ _ _ _ hbx
    have k4 : V3.frozen? ⟨g3, 4, none⟩ = false := frozen_of_row _ _ _ _ _ hbx
    have k5 : V3.frozen? ⟨g3, 5, none⟩ = false := frozen_of_row _ _ _ _ _ hbx
    go_simp
    obtain ⟨U3, hU3⟩ : ∃ U, U = (((((V3.setCell ⟨g3, 0, none⟩ (.int .i64 0)).setCell ⟨g3, 1, none⟩ (.int .u32 0)).setCell ⟨g3, 2, none⟩ (.int .u32 0)).setCell ⟨g3, 3, none⟩ (.int .i64 0)).setCell ⟨g3, 4, none⟩ (.bool false)).setCell ⟨g3, 5, none⟩ (.slice sa3 0 sc3) := ⟨_, rfl⟩
    have HB5 := Lib.hid (show Below W.heap.size W U3 by
      rw [hU3]
      have hgt := HGT.out
      repeat (with_reducible refine Below.setCell ?_ (by simp only; omega) _)
      exact HB4.out)
    rw [← hU3]
    refine hK _ _ HB5.out ?_
    clear hK K hU3 x0 x1 x2 x3 x4 x5 k0 k1 k2 k3 k4 k5 hbx
    iterate 1 ((apply wpOT_take rfl rfl (by kernel_rfl); (intro V _; go_simp; rfl)); (try simp only [List.setIfInBounds_toArray, List.set_cons_succ, List.set_cons_zero]))
    refine wpOT_nil ?_
    go_wp2_with fail
    refine (kn_dz _ _ kn_b4).mono ?_
    rintro e V4 ⟨sa4, sc4, rfl, hb⟩
    have HB6 := Lib.hid (HB5.out.trans (hb.mono HB5.out.size))
    obtain ⟨i0, hi, hz0, hz1, hz2⟩ := info_parts infoA
    clear hb
    go_wp2_with (at_make; refine wpList_make_full _ rfl (.const (.int .i64 17)) (.const (.int .i64 17)) 23 rfl W.heap.size 31 i0 (.agg #[.int .i64 0, .int .i64 0]) 2 Try.underlying23 hi hz0 hz1 .i64 .i64 17 17 17 rfl rfl rfl rfl ?c1 ?c2 ?c3 ?_)
    case c1 => rw [hz2]; decide
    case c2 => decide
    case c3 => simp only [World.size_alloc]; have := HB6.out.size; omega
    intro w3 hown3 hg3
    obtain ⟨Y1, hY1⟩ : ∃ Y, Y = V4.alloc (.cells #[.int .i64 0, .int .u32 0, .int .u32 0, .int .i64 0, .bool false, .slice sa4 0 sc4] 25) := ⟨_, rfl⟩
    obtain ⟨Y2, hY2⟩ : ∃ Y, Y = Y1.alloc (.cells #[.int .i64 1, .int .u32 1, .int .u32 1, .int .i64 0, .bool false, .slice none 0 0] 25) := ⟨_, rfl⟩
    obtain ⟨Y3, hY3⟩ : ∃ Y, Y = Y2.alloc (.cells #[.int .i64 3, .int .i64 1, .int .i64 2, .int .i64 1] 31) := ⟨_, rfl⟩
    obtain ⟨Y4, hY4⟩ : ∃ Y, Y = Y3.alloc (.cells #[.int .i64 1, .int .i64 1] 31) := ⟨_, rfl⟩
    rw [← hY1, ← hY2, ← hY3, ← hY4] at hg3
    have z1 : Y1.heap.size = V4.heap.size + 1 := by rw [hY1, World.size_alloc]
    have z2 : Y2.heap.size = V4.heap.size + 1 + 1 := by rw [hY2, World.size_alloc, z1]
    have z3 : Y3.heap.size = V4.heap.size + 1 + 1 + 1 := by rw [hY3, World.size_alloc, z2]
    have b1 : Below V4.heap.size V4 Y1 := by rw [hY1]; exact (Below.refl _ _).alloc (Nat.le_refl _) _
    have b2 : Below Y1.heap.size Y1 Y2 := by rw [hY2]; exact (Below.refl _ _).alloc (Nat.le_refl _) _
    have b3 : Below Y2.heap.size Y2 Y3 := by rw [hY3]; exact (Below.refl _ _).alloc (Nat.le_refl _) _
    have b4 : Below Y3.heap.size Y3 Y4 := by rw [hY4]; exact (Below.refl _ _).alloc (Nat.le_refl _) _
    have b5 : Below Y4.heap.size Y4 w3 := ⟨hg3.os, hg3.tape, hg3.output, hg3.size, fun k hk => hg3.block k hk (by simp)⟩
    have o2 : BoxR (V4.heap.size + 1) ⟨1, 1, 1, 0, false, []⟩ none 0 Y2 := by rw [hY2, ← z1]; exact heap_alloc_new _ _
    have p3 : AdjsIn Y3 (some ⟨V4.heap.size + 1 + 1, 0, none⟩) [(3, 1), (2, 1)] := by rw [hY3, ← z2]; exact adjs_lit Y2 [(3, 1), (2, 1)]
    have p4 : AdjsIn Y4 (some ⟨V4.heap.size + 1 + 1 + 1, 0, none⟩) [(1, 1)] := by rw [hY4, ← z3]; exact adjs_lit Y3 [(1, 1)]
    have hrow := Row.of_own hown3
    have ev : (madeCells #[Value.int .i64 0, Value.int .i64 0] 34).toList = adjV (List.replicate 17 (0, 0)) := by first | rfl | kernel_rfl | decide +kernel
    rw [ev] at hrow
    have p5 : AdjsIn w3 (some ⟨V4.heap.size + 1 + 1 + 1 + 1, 0, none⟩) (List.replicate 17 (0, 0)) := row_adjs (cap := 17) (n := 17) (xs := List.replicate 17 (0, 0)) hrow (by decide) (by decide)
    have hbw : Below W.heap.size W w3 := by
      have h1 := HB6.out.trans (b1.mono HB6.out.size)
      have h2 := h1.trans (b2.mono h1.size)
      have h3 := h2.trans (b3.mono h2.size)
      have h4 := h3.trans (b4.mono h3.size)
      exact h4.trans (b5.mono h4.size)
    obtain ⟨S, hS⟩ : ∃ S, S = w3.heap.size := ⟨_, rfl⟩
    obtain ⟨VL, hVL⟩ : ∃ V, V = w3.alloc (.cells #[.int .i64 0, .int .u32 0, .int .u32 0, .int .i64 0, .bool false, .slice none 0 0, .int .i64 1, .int .u32 0, .int .u32 1, .int .i64 0, .bool false, .slice none 0 0, .int .i64 1, .int .u32 1, .int .u32 0, .int .i64 0, .bool false, .slice none 0 0, .int .i64 25, .int .u32 1, .int .u32 1, .int .i64 0, .bool false, .slice none 0 0, .int .i64 1, .int .u32 1, .int .u32 1, .int .i64 1025, .bool false, .slice none 0 0, .int .i64 1, .int .u32 1, .int .u32 1, .int .i64 (-1), .bool false, .slice none 0 0, .int .i64 1, .int .u32 1, .int .u32 1, .int .i64 0, .bool false, .slice (some ⟨V4.heap.size + 1 + 1, 0, none⟩) 2 2, .int .i64 1, .int .u32 1, .int .u32 1, .int .i64 0, .bool false, .slice (some ⟨V4.heap.size + 1 + 1 + 1, 0, none⟩) 1 1, .int .i64 1, .int .u32 1, .int .u32 1, .int .i64 0, .bool false, .slice (some ⟨V4.heap.size + 1 + 1 + 1 + 1, 0, none⟩) 17 17] 25) := ⟨_, rfl⟩
    have b6 : Below w3.heap.size w3 VL := by rw [hVL]; exact (Below.refl _ _).alloc (Nat.le_refl _) _
    have HL0 := Lib.hid (show KnRel W V4.heap.size S (.int .i64 0) VL from ⟨0, rfl, by omega, (((o2.later b3).later b4).later b5).later b6, ((p3.later b4).later b5).later b6, (p4.later b5).later b6, p5.later b6, by rw [hVL, hS]; exact heap_alloc_new _ _, hbw.trans (b6.mono hbw.size)⟩)
    have HVL := Lib.hid hVL
    have HSS := Lib.hid hS
    clear hown3 hg3 hrow hY1 hY2 hY3 hY4 z1 z2 z3 b1 b2 b3 b4 b5 b6 o2 p3 p4 p5 hbw hS hVL hi hz0 hz1 hz2
    go_wp2_with fail
    rw [← HVL.out, ← HSS.out]
    clear HVL
    go_loopw [11] (fun i wr => KnRel W V4.heap.size S i wr) (fun i _ => 20 - (intOf i).toNat)
    case atStart => exact HL0.out
    case round =>
      obtain ⟨k, rfl, hk9, hs⟩ := hrel
      by_cases hlt : k < 9
      · obtain ⟨r, sa, sc, x0, x1, x2, x3, x4, x5, hA, he, hl⟩ := hs.get hlt
        have HT := Lib.hid hs
        have HCK := Lib.hid (check_any r sa sc wr hA hl)
        have HER := Lib.hid he
        unfold maxLen at hl
        unfold Rc.ag Rc.cs at HCK
        clear hs hA he
        go_wp2_with fail
        refine HCK.out.mono ?_
        rintro e V ⟨rfl, hb⟩
        rw [HER.out]
        have HT2 := Lib.hid (HT.out.later hb)
        clear hb x0 x1 x2 x3 x4 x5
        go_wp2_with fail
        case roundEnd =>
          refine ⟨⟨k + 1, by simp, by omega, HT2.out⟩, ?_⟩
          simp only [intOf]
          omega
      · obtain rfl : k = 9 := by omega
        have HT := Lib.hid hs
        clear hs
        go_wp2_with fail
        refine (kn_e1 _).mono ?_
        rintro e V5 ⟨rfl, hb⟩
        have HT5 := Lib.hid (HT.out.later hb)
        clear hb
        go_wp2_with fail
        refine (kn_s1 _).mono ?_
        rintro e V6 ⟨rfl, hb⟩
        have HT6 := Lib.hid (HT5.out.later hb)
        clear hb
        obtain ⟨p, hp⟩ : ∃ p, p = V6.heap.size := ⟨_, rfl⟩
        obtain ⟨X6, hX6⟩ : ∃ X, X = V6.alloc (.cells #[.int .i64 3, .int .u32 1, .int .u32 1] 39) := ⟨_, rfl⟩
        have hbX : Below V6.heap.size V6 X6 := by rw [hX6]; exact (Below.refl _ _).alloc (Nat.le_refl _) _
        have HT7 := Lib.hid (HT6.out.later hbX)
        have HP7 := Lib.hid (show BoxS p ⟨3, 1, 1⟩ X6 by rw [hX6, hp]; exact heap_alloc_new _ _)
        have HX6 := Lib.hid hX6
        have HP := Lib.hid hp
        clear hbX hX6 hp
        go_wp2_with fail
        rw [← HX6.out, ← HP.out]
        refine (kn_e2 _).mono ?_
        rintro e V7 ⟨rfl, hb⟩
        have HT8 := Lib.hid (HT7.out.later hb)
        have HP8 := Lib.hid (HP7.out.later hb)
        clear hb
        go_wp2_with fail
        refine (kn_s2 _).mono ?_
        rintro e V8 ⟨rfl, hb⟩
        obtain ⟨X8, hX8⟩ : ∃ X, X = V8.alloc (.cells #[.int .i64 0, .int .u32 0, .int .u32 0] 39) := ⟨_, rfl⟩
        have hbX : Below V8.heap.size V8 X8 := by rw [hX8]; exact (Below.refl _ _).alloc (Nat.le_refl _) _
        have HT9 := Lib.hid ((HT8.out.later hb).later hbX)
        have HP9 := Lib.hid ((HP8.out.later hb).later hbX)
        have HX8 := Lib.hid hX8
        clear hb hbX hX8
        go_wp2_with fail
        rw [← HX8.out]
        refine (works_any _).mono ?_
        rintro e V9 ⟨rfl, hb⟩
        have HT10 := Lib.hid (HT9.out.later hb)
        have HP10 := Lib.hid (HP9.out.later hb)
        clear hb
        obtain ⟨x0, x1, x2, x3, x4, x5⟩ := BoxR.cells HT10.out.one
        simp only [List.length_nil] at x5
        go_wp2_with fail
        refine (kn_one _).mono ?_
        rintro e VA ⟨rfl, hb⟩
        have HT11 := Lib.hid (HT10.out.later hb)
        have HP11 := Lib.hid (HP10.out.later hb)
        clear hb x0 x1 x2 x3 x4 x5
        go_wp2_with fail
        refine (kn_n1 _).mono ?_
        rintro e VB ⟨rfl, hb⟩
        have HT12 := Lib.hid (HT11.out.later hb)
        have HP12 := Lib.hid (HP11.out.later hb)
        clear hb
        go_wp2_with fail
        refine (kn_n2 _).mono ?_
        rintro e VC ⟨rfl, hb⟩
        have HT13 := Lib.hid (HT12.out.later hb)
        have HP13 := Lib.hid (HP12.out.later hb)
        clear hb
        go_wp2_with fail
        refine (kn_n3 _).mono ?_
        rintro e VD ⟨rfl, hb⟩
        have HT14 := Lib.hid (HT13.out.later hb)
        obtain ⟨x0, x1, x2⟩ := BoxS.cells (HP13.out.later hb)
        clear hb
        go_wp2_with fail
        go_returns
        exact ⟨rfl, HT14.out.bel⟩

end Go.Proofs.Ytcdmmplmkgdejaa
