/- Contracts of the reference's tally: lists of counts. -/
import Derived.Test.YtnfdkgmikijbgaaTallyR
import Derived.Test.YtnfdkgmikijbgaaTallyS
set_option linter.unusedSimpArgs false
set_option linter.unusedVariables false
namespace Go.Proofs.Ytnfdkgmikijbgaa
open Go.RowKit Go.ChangeShapes Go.WideShapes

/-- A list of counts in memory. -/
def CRow (W : World) (B : Nat) (v : Value) (L : List Cn) : Prop := Row W B 37 6 v 25 (L.flatMap Cn.cs) ∧ L.length = 25 ∧ ∀ c ∈ L, c.ok
theorem infoC : (Try.prog.info? 37).map (fun i => (i.zero, i.size, i.bytes)) = some (some (.agg #[.int .u64 0, .int .u64 0, .int .u64 0, .int .u64 0, .int .u64 0, .int .u64 0]), 6, 48) := by kernel_rfl
theorem CRow.later {W V : World} {B : Nat} {v : Value} {L : List Cn} (h : CRow W B v L) (hb : Below W.heap.size W V) : CRow V B v L := ⟨h.1.later hb, h.2⟩
theorem CRow.kept {W V : World} {B : Nat} {v : Value} {L : List Cn} {row : Option Nat} (h : CRow W B v L) (hg : W.grownBy V row) (hne : v.ownBlock = none ∨ v.ownBlock ≠ row) : CRow V B v L := ⟨h.1.kept hg hne, h.2⟩
theorem new15_cells : (madeCells #[Value.int .u64 0, .int .u64 0, .int .u64 0, .int .u64 0, .int .u64 0, .int .u64 0] 150).toList = tl0.flatMap Cn.cs := by kernel_rfl
theorem new15_any (W : World) : Calls Try.prog 15 #[] W fun e W' => ∃ v, e = .returned v ∧ CRow W' W.heap.size v tl0 ∧ Below W.heap.size W W' := by
  obtain ⟨i0, hi, hz0, hz1, hz2⟩ := info_parts infoC
  go_enter Try.func15, Try.ntmps15
  go_wp2_with (at_make; refine wpList_make_full _ rfl (.const (.int .i64 25)) (.const (.int .i64 25)) 47 rfl W.heap.size 37 i0 _ 6 Try.underlying47 hi hz0 hz1 .i64 .i64 25 25 25 rfl rfl rfl rfl ?c1 ?c2 ?c3 ?_)
  case c1 => rw [hz2]; decide
  case c2 => simp [maxLen]
  case c3 => exact Nat.le_refl _
  intro w2 ho hg
  rw [new15_cells] at ho
  have HE := Lib.hid (show CRow w2 W.heap.size (.slice (some ⟨W.heap.size, 0, none⟩) 25 25) tl0 ∧ Below W.heap.size W w2 from ⟨⟨Row.of_own ho, by simp [tl0], fun c hc => by rw [List.eq_of_mem_replicate hc]; exact Cn.zero_ok⟩, ⟨hg.os, hg.tape, hg.output, hg.size, fun q hq => hg.block q hq (by simp)⟩⟩)
  clear ho hg hi hz0 hz1 hz2
  go_wp2_with fail
  go_returns
  exact ⟨_, rfl, HE.out⟩
theorem router_yes (r : Nat) (W : World) (h1 : 1 ≤ r) (h2 : r ≤ 24) : Calls Try.prog 21 #[.int .i64 r] W fun e W' => e = .returned (.bool true) ∧ W = W' := by
  have hr1 : decide ((1 : Int) ≤ (r : Int)) = true := decide_eq_true (by omega)
  have hr2 : decide ((r : Int) ≤ 24) = true := decide_eq_true (by omega)
  go_enter Try.func21, Try.ntmps21
  go_wp2_with fail
  go_returns
  exact ⟨rfl, rfl⟩
theorem router_no (r : Int) (W : World) (hr : r < 1 ∨ 24 < r) : Calls Try.prog 21 #[.int .i64 r] W fun e W' => e = .returned (.bool false) ∧ W = W' := by
  rcases hr with h | h
  · have h1 : decide ((1 : Int) ≤ r) = false := decide_eq_false (by omega)
    go_enter Try.func21, Try.ntmps21
    go_wp2_with fail
    go_returns
    exact ⟨rfl, rfl⟩
  · have h1 : decide ((1 : Int) ≤ r) = true := decide_eq_true (by omega)
    have h2 : decide (r ≤ 24) = false := decide_eq_false (by omega)
    go_enter Try.func21, Try.ntmps21
    go_wp2_with fail
    go_returns
    exact ⟨rfl, rfl⟩
theorem add15_no (v : Value) (r : Int) (c : Cn) (W : World) (hr : r < 1 ∨ 24 < r) :
    Calls Try.prog 18 #[v, .int .i64 r, c.ag] W fun e W' => e = .returned (.tuple #[v, .int .i64 2]) ∧ Below W.heap.size W W' := by
  have HR := Lib.hid (fun V => router_no r V hr)
  clear hr
  go_enter Try.func18, Try.ntmps18
  unfold Cn.ag
  go_wp2_with fail
  refine (HR.out _).mono ?_
  rintro e w ⟨rfl, rfl⟩
  go_wp2_with fail
  go_ret2
  exact ⟨rfl, (Below.refl _ _).alloc (Nat.le_refl _) _⟩
theorem clear15_no (v : Value) (r : Int) (W : World) (hr : r < 1 ∨ 24 < r) :
    Calls Try.prog 20 #[v, .int .i64 r] W fun e W' => e = .returned (.tuple #[v, .int .i64 2]) ∧ W = W' := by
  have HR := Lib.hid (fun V => router_no r V hr)
  clear hr
  go_enter Try.func20, Try.ntmps20
  go_wp2_with fail
  refine (HR.out _).mono ?_
  rintro e w ⟨rfl, rfl⟩
  go_wp2_with fail
  go_ret2
  exact ⟨rfl, rfl⟩

theorem one_cs (L : List Cn) : ∀ u ∈ L.flatMap Cn.cs, u.oneCell' = true := by
  intro v hv
  obtain ⟨c, _, hc⟩ := List.mem_flatMap.1 hv
  simp only [Cn.cs, List.mem_cons, List.not_mem_nil, or_false] at hc
  rcases hc with rfl | rfl | rfl | rfl | rfl | rfl <;> rfl
/-- One of a list's counts laid anew. -/
theorem CRow.put {W : World} {B g cap r : Nat} {L : List Cn} {c : Cn} (h : CRow W B (.slice (some ⟨g, 0, none⟩) 25 cap) L) (hc : c.ok) :
    CRow ((((((W.setCell ⟨g, r * 6, none⟩ (.int .u64 c.got)).setCell ⟨g, r * 6 + 1, none⟩ (.int .u64 c.loc)).setCell ⟨g, r * 6 + 2, none⟩ (.int .u64 c.cop)).setCell ⟨g, r * 6 + 3, none⟩ (.int .u64 c.los)).setCell ⟨g, r * 6 + 4, none⟩ (.int .u64 c.exp)).setCell ⟨g, r * 6 + 5, none⟩ (.int .u64 c.bad)) B (.slice (some ⟨g, 0, none⟩) 25 cap) (L.set r c) := by
  refine ⟨?_, by rw [List.length_set]; exact h.2.1, fun x hx => ?_⟩
  · rw [← fl_set]
    exact (Row.stored (Row.stored (Row.stored (Row.stored (Row.stored (Row.stored h.1 (r * 6) (.int .u64 c.got)).1 (r * 6 + 1) (.int .u64 c.loc)).1 (r * 6 + 2) (.int .u64 c.cop)).1 (r * 6 + 3) (.int .u64 c.los)).1 (r * 6 + 4) (.int .u64 c.exp)).1 (r * 6 + 5) (.int .u64 c.bad)).1
  · rcases List.mem_or_eq_of_mem_set hx with h' | h'
    · exact h.2.2 x h'
    · rw [h']; exact hc
/-- A list's counts, as cells. -/
theorem CRow.six {W : World} {B g cap r : Nat} {L : List Cn} (h : CRow W B (.slice (some ⟨g, 0, none⟩) 25 cap) L) (hr : r < 25) :
    (W.cell? ⟨g, r * 6, none⟩ = some (.int .u64 (L.getD r default).got) ∧ W.cell? ⟨g, r * 6 + 1, none⟩ = some (.int .u64 (L.getD r default).loc) ∧ W.cell? ⟨g, r * 6 + 2, none⟩ = some (.int .u64 (L.getD r default).cop) ∧ W.cell? ⟨g, r * 6 + 3, none⟩ = some (.int .u64 (L.getD r default).los) ∧ W.cell? ⟨g, r * 6 + 4, none⟩ = some (.int .u64 (L.getD r default).exp) ∧ W.cell? ⟨g, r * 6 + 5, none⟩ = some (.int .u64 (L.getD r default).bad)) ∧
    ∀ j, j < 6 → W.frozen? ⟨g, r * 6 + j, none⟩ = false := by
  obtain ⟨g', cap', he, _, _, _, _, hc, hf⟩ := h.1.form (by omega)
  simp only [Value.slice.injEq, Option.some.injEq, Addr.mk.injEq, and_true, true_and] at he
  obtain ⟨rfl, _⟩ := he
  have key : ∀ j, j < 6 → W.cell? ⟨g, r * 6 + j, none⟩ = (L.getD r default).cs[j]? := fun j hj => by
    rw [hc _ (by omega), fl_get hj L r (by rw [h.2.1]; exact hr)]
  exact ⟨⟨key 0 (by omega), key 1 (by omega), key 2 (by omega), key 3 (by omega), key 4 (by omega), key 5 (by omega)⟩, fun j hj => hf _ (by omega)⟩

set_option maxRecDepth 100000 in
set_option maxHeartbeats 1600000 in
theorem clear15_any (v : Value) (r : Nat) (B : Nat) (L : List Cn) (W : World) (H : CRow W B v L) (h1 : 1 ≤ r) (h2 : r ≤ 24) :
    Calls Try.prog 20 #[v, .int .i64 r] W fun e W' => ∃ v', e = .returned (.tuple #[v', .int .i64 0]) ∧ CRow W' W.heap.size v' (L.set r Cn.zero) ∧ Below W.heap.size W W' := by
  obtain ⟨g, cap, rfl, _, _, hcap, hcm, hcell, hfro⟩ := H.1.form (by omega)
  have HR := Lib.hid (fun V => router_yes r V h1 h2)
  have HH := Lib.hid H
  have HC := Lib.hid (H.1.cells (g := g) rfl)
  obtain ⟨i0, hi, hz0, hz1, hz2⟩ := info_parts infoC
  clear hcell hfro H
  go_enter Try.func20, Try.ntmps20
  go_wp2_with fail
  refine (HR.out _).mono ?_
  rintro e w ⟨rfl, rfl⟩
  go_wp2_with (at_builtin; refine wpList_append_row _ rfl (.tmp 11) (.tmp 12) 47 rfl W.heap.size 37 i0 (.agg #[.int .u64 0, .int .u64 0, .int .u64 0, .int .u64 0, .int .u64 0, .int .u64 0]) 6 48 Try.underlying47 hi hz0 hz1 hz2 rfl (by decide) (.slice none 0 0) 0 [] rfl (Row.nil_ _ _ _ _) ⟨g, 0, none⟩ 25 cap (L.flatMap Cn.cs) rfl HH.out.1.1 HC.out (one_cs L) (by simp [maxLen]) (by decide) (Nat.le_refl _) ?_)
  intro v' w2 hrow hg _ _
  have hcr : CRow w2 W.heap.size v' L := ⟨hrow, HH.out.2⟩
  have hb2 : Below W.heap.size W w2 := (Below.refl _ _).grown hg (Nat.le_refl _) (fun q hq => by simp [Value.ownBlock] at hq)
  obtain ⟨g', cap', hv', hgb, hgs, _, _, _, _⟩ := hrow.form (by omega)
  subst hv'
  obtain ⟨⟨x0, x1, x2, x3, x4, x5⟩, hf⟩ := hcr.six (r := r) (by omega)
  have f0 : w2.frozen? ⟨g', r * 6, none⟩ = false := hf 0 (by omega)
  have f1 := hf 1 (by omega)
  have f2 := hf 2 (by omega)
  have f3 := hf 3 (by omega)
  have f4 := hf 4 (by omega)
  have f5 := hf 5 (by omega)
  have HCR := Lib.hid hcr
  have HB2 := Lib.hid hb2
  have HGB := Lib.hid hgb
  clear hrow hg hcr hb2 hf hi hz0 hz1 hz2 hgb
  have HPUT := Lib.hid (CRow.put (r := r) HCR.out Cn.zero_ok)
  have HBE := Lib.hid (Below.setCell (Below.setCell (Below.setCell (Below.setCell (Below.setCell (Below.setCell HB2.out (p := ⟨g', r * 6, none⟩) HGB.out (.int .u64 0)) (p := ⟨g', r * 6 + 1, none⟩) HGB.out (.int .u64 0)) (p := ⟨g', r * 6 + 2, none⟩) HGB.out (.int .u64 0)) (p := ⟨g', r * 6 + 3, none⟩) HGB.out (.int .u64 0)) (p := ⟨g', r * 6 + 4, none⟩) HGB.out (.int .u64 0)) (p := ⟨g', r * 6 + 5, none⟩) HGB.out (.int .u64 0))
  go_wp2_with fail
  go_ret2
  exact ⟨_, rfl, HPUT.out, HBE.out⟩

structure AdR (W : World) (v : Value) (L : List Cn) (c : Cn) (V : World) : Prop where
  row : CRow V (W.heap.size + 1) v L
  box : BoxC W.heap.size c V
  bel : Below W.heap.size W V
theorem AdR.later {W V X : World} {v : Value} {L : List Cn} {c : Cn} (h : AdR W v L c V) (hb : Below V.heap.size V X) : AdR W v L c X := ⟨h.row.later hb, BoxC.later h.box hb, h.bel.trans (hb.mono h.bel.size)⟩

set_option maxRecDepth 100000 in
set_option maxHeartbeats 1600000 in
theorem add15_any (v : Value) (r : Nat) (B : Nat) (L : List Cn) (c : Cn) (W : World) (H : CRow W B v L) (hc : c.ok) (h1 : 1 ≤ r) (h2 : r ≤ 24) :
    Calls Try.prog 18 #[v, .int .i64 r, c.ag] W fun e W' => ∃ v', e = .returned (.tuple #[v', .int .i64 0]) ∧ CRow W' W.heap.size v' (L.set r ((L.getD r default).add c)) ∧ Below W.heap.size W W' := by
  obtain ⟨g, cap, rfl, _, _, hcap, hcm, hcell, hfro⟩ := H.1.form (by omega)
  have HR := Lib.hid (fun V => router_yes r V h1 h2)
  have hrl : r < L.length := by rw [H.2.1]; omega
  have HLC := Lib.hid (show (L.getD r default).ok from H.2.2 _ (by rw [List.getD_eq_getElem?_getD, List.getElem?_eq_getElem hrl]; exact List.getElem_mem hrl))
  obtain ⟨W1, hW1⟩ : ∃ W1, W1 = W.alloc (.cells #[.int .u64 c.got, .int .u64 c.loc, .int .u64 c.cop, .int .u64 c.los, .int .u64 c.exp, .int .u64 c.bad] 37) := ⟨_, rfl⟩
  have hb1 : Below W.heap.size W W1 := by rw [hW1]; exact (Below.refl _ _).alloc (Nat.le_refl _) _
  have HBX := Lib.hid (show BoxC W.heap.size c W1 by rw [hW1]; exact heap_alloc_new _ _)
  have HH := Lib.hid (H.later hb1)
  have HC := Lib.hid ((H.later hb1).1.cells (g := g) rfl)
  have HB1 := Lib.hid hb1
  have HCO := Lib.hid hc
  have HW1 := Lib.hid hW1
  obtain ⟨i0, hi, hz0, hz1, hz2⟩ := info_parts infoC
  clear hcell hfro H hb1 hc hW1 hrl
  go_enter Try.func18, Try.ntmps18
  unfold Cn.ag
  go_wp2_with fail
  rw [← HW1.out]
  refine (HR.out _).mono ?_
  rintro e w ⟨rfl, rfl⟩
  go_wp2_with (at_builtin; refine wpList_append_row _ rfl (.tmp 13) (.tmp 14) 47 rfl (W.heap.size + 1) 37 i0 (.agg #[.int .u64 0, .int .u64 0, .int .u64 0, .int .u64 0, .int .u64 0, .int .u64 0]) 6 48 Try.underlying47 hi hz0 hz1 hz2 rfl (by decide) (.slice none 0 0) 0 [] rfl (Row.nil_ _ _ _ _) ⟨g, 0, none⟩ 25 cap (L.flatMap Cn.cs) rfl HH.out.1.1 HC.out (one_cs L) (by simp [maxLen]) (by decide) (Array.getElem?_eq_some_iff.1 HBX.out).1 ?_)
  intro v' w2 hrow hg _ _
  have hcr : CRow w2 (W.heap.size + 1) v' L := ⟨hrow, HH.out.2⟩
  have hb2 : Below W.heap.size W w2 := HB1.out.grown hg HB1.out.size (fun q hq => by simp [Value.ownBlock] at hq)
  have hbx : BoxC W.heap.size c w2 := BoxC.kept HBX.out hg (by simp [Value.ownBlock])
  obtain ⟨g', cap', hv', hgb, hgs, _, _, _, _⟩ := hrow.form (by omega)
  subst hv'
  have hne : W.heap.size ≠ g' := by omega
  have h25 : (r : Int) < 25 := by omega
  have HAD := Lib.hid (show AdR W (.slice (some ⟨g', 0, none⟩) 25 cap') L c w2.drew from ⟨hcr.later ⟨rfl, rfl, rfl, Nat.le_refl _, fun _ _ => rfl⟩, hbx, hb2.trans ⟨rfl, rfl, rfl, Nat.le_refl _, fun _ _ => rfl⟩⟩)
  obtain ⟨a, ha⟩ : ∃ a, L.getD r default = a := ⟨_, rfl⟩
  rw [ha] at HLC
  have HA := Lib.hid ha
  have HSIX := Lib.hid (show ∀ V, AdR W (.slice (some ⟨g', 0, none⟩) 25 cap') L c V → _ from fun V hV => by have := CRow.six (r := r) hV.row (by omega); rw [ha] at this; exact this)
  clear hrow hg hcr hb2 hbx hi hz0 hz1 hz2 ha
  go_wp2_with fail
  refine wp_region_ordB [(0, 0), (1, 0), (2, 0), (3, 0), (4, 0), (5, 0), (6, 0), (7, 2), (8, 0), (9, 3)] [9] (AdR W (.slice (some ⟨g', 0, none⟩) 25 cap') L c) (by kernel_rfl) (by kernel_rfl) (by decide) (by kernel_rfl) (fun d _ _ _ _ h => by cases d <;> exact h) HAD.out ?_
  iterate 7 ((apply wpOrdB_take rfl rfl (by kernel_rfl); (intro V hV; obtain ⟨⟨x0, x1, x2, x3, x4, x5⟩, _⟩ := HSIX.out V hV; obtain ⟨y0, y1, y2, y3, y4, y5⟩ := BoxC.cells hV.box; go_simp; rfl)); (try simp only [List.setIfInBounds_toArray, List.set_cons_succ, List.set_cons_zero]))
  apply wpOrdB_do rfl (by kernel_rfl)
  intro K hK
  go_simp
  have had := added_any a c w2.drew HLC.out HCO.out
  unfold Cn.ag at had
  refine had.mono ?_
  clear had
  rintro e V ⟨rfl, hb⟩
  have HV := Lib.hid (AdR.later HAD.out hb)
  refine hK _ _ HV.out ?_
  clear hK K hb
  iterate 1 ((apply wpOrdB_take rfl rfl (by kernel_rfl); (intro V hV; go_simp; rfl)); (try simp only [List.setIfInBounds_toArray, List.set_cons_succ, List.set_cons_zero]))
  apply wpOrdB_last rfl (by kernel_rfl)
  intro K hK
  obtain ⟨⟨x0, x1, x2, x3, x4, x5⟩, hf⟩ := HSIX.out V HV.out
  have f0 : V.frozen? ⟨g', r * 6, none⟩ = false := hf 0 (by omega)
  have f1 := hf 1 (by omega)
  have f2 := hf 2 (by omega)
  have f3 := hf 3 (by omega)
  have f4 := hf 4 (by omega)
  have f5 := hf 5 (by omega)
  clear hf
  obtain ⟨t, ht⟩ : ∃ t, t = a.add c := ⟨_, rfl⟩
  have HT := Lib.hid ht
  have HPUT := Lib.hid (CRow.put (r := r) (c := t) HV.out.row (by rw [ht]; exact Cn.add_ok HLC.out HCO.out))
  have hbt : Below (W.heap.size + 1) V _ := Below.setCell (Below.setCell (Below.setCell (Below.setCell (Below.setCell (Below.setCell (Below.refl (W.heap.size + 1) V) (p := ⟨g', r * 6, none⟩) hgb (.int .u64 t.got)) (p := ⟨g', r * 6 + 1, none⟩) hgb (.int .u64 t.loc)) (p := ⟨g', r * 6 + 2, none⟩) hgb (.int .u64 t.cop)) (p := ⟨g', r * 6 + 3, none⟩) hgb (.int .u64 t.los)) (p := ⟨g', r * 6 + 4, none⟩) hgb (.int .u64 t.exp)) (p := ⟨g', r * 6 + 5, none⟩) hgb (.int .u64 t.bad)
  have HBT := Lib.hid hbt
  have HSV := Lib.hid (HV.out.bel.trans (hbt.mono (Nat.le_succ _)))
  rw [← ht]
  clear ht hbt
  go_simp
  refine hK _ _ ?_
  clear hK K
  refine wpOrdB_nil ?_
  go_wp2_with fail
  go_ret2
  exact ⟨_, rfl, by rw [HA.out, ← HT.out]; exact ⟨HPUT.out.1.more (Nat.le_succ _), HPUT.out.2⟩, HSV.out⟩

end Go.Proofs.Ytnfdkgmikijbgaa
