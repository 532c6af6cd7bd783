/- Contracts of the message: the parts of a wish, an ack. (Printed by mkmsk.py.) -/
import Derived.Test.YtickjmkkgcfkhaaMsI
set_option linter.unusedSimpArgs false
set_option linter.unusedVariables false
set_option maxRecDepth 100000
set_option maxRecDepth 100000
namespace Go.Proofs.Ytickjmkkgcfkhaa
open Go.RowKit Go.ChangeShapes Go.WideShapes

/-- While numbers are taken off bytes: the message, the bytes, the place. -/
structure RdM (W : World) (s : ByteArray) (g B p : Nat) (m : Ms) (V : World) : Prop where
  box : BoxM g m none 0 V
  str : V.heap[B]? = some (.cells #[.string s] 9 (0, 0))
  pos : V.heap[B + 1]? = some (.cells #[.int .i64 (p : Int)] 3 (0, 0))
  gr : W.grownBy V (some g)
  lo : g < W.heap.size
  hi : W.heap.size ≤ B
theorem RdM.set {W : World} {s : ByteArray} {g B p i : Nat} {m n : Ms} {v : Value} {V : World} (h : RdM W s g B p m V) (he : (m.cs none 0).setIfInBounds i v = n.cs none 0) : RdM W s g B p n (V.setCell ⟨g, i, none⟩ v) := by
  have h1 := h.lo
  have h2 := h.hi
  exact ⟨h.box.set he, (heap_setCell_other V ⟨g, i, none⟩ B v (by simp only; omega)).trans h.str, (heap_setCell_other V ⟨g, i, none⟩ (B + 1) v (by simp only; omega)).trans h.pos, grown_set h.gr, h.lo, h.hi⟩
theorem taker_any (s : ByteArray) (W : World) : Calls Try.prog 76 #[.string s] W fun e W' => e = .returned (.func (.func 96) #[] #[.pointer (some ⟨W.heap.size, 0, none⟩), .pointer (some ⟨W.heap.size + 1, 0, none⟩)]) ∧
    W'.heap[W.heap.size]? = some (.cells #[.string s] 9 (0, 0)) ∧ W'.heap[W.heap.size + 1]? = some (.cells #[.int .i64 0] 3 (0, 0)) ∧ Below W.heap.size W W' := by
  obtain ⟨X, hX⟩ : ∃ X, X = (W.alloc (.cells #[.string s] 9)).alloc (.cells #[.int .i64 0] 3) := ⟨_, rfl⟩
  have HE := Lib.hid (show X.heap[W.heap.size]? = some (.cells #[.string s] 9 (0, 0)) ∧ X.heap[W.heap.size + 1]? = some (.cells #[.int .i64 0] 3 (0, 0)) ∧ Below W.heap.size W X by
    rw [hX]
    exact ⟨heap_alloc2_old _ _ _, heap_alloc2_new _ _ _, ((Below.refl _ _).alloc (Nat.le_refl _) _).alloc (by rw [World.size_alloc]; omega) _⟩)
  have HX := Lib.hid hX
  clear hX
  go_enter Try.func76, Try.ntmps76
  go_wp2_with fail
  rw [← HX.out]
  go_returns
  exact ⟨rfl, HE.out⟩
theorem enter_take1 (args : Array Value) (w : World) : (callFunc 96 args).run Try.prog w = .ok (.enter 96 args) w := enters_of Try.func96 (by kernel_rfl) rfl args w
set_option maxHeartbeats 1600000 in
theorem take1_any (W : World) (s : ByteArray) (g B p k : Nat) (m : Ms) (V : World) (h : RdM W s g B p m V) (hk : k = 1 ∨ k = 2 ∨ k = 4) (hp : p ≤ 1000) (hs : s.size ≤ 1000) :
    Calls Try.prog 96 #[.int .i64 k, .pointer (some ⟨B, 0, none⟩), .pointer (some ⟨B + 1, 0, none⟩)] V fun e X => e = .returned (.int .u64 (tk s p k : Nat)) ∧ RdM W s g B (p + k) m X := by
  have c0 := (cell_of_row _ _ 0 _ _ _ h.str).trans rfl
  have c1 := (cell_of_row _ _ 0 _ _ _ h.pos).trans rfl
  have f1 := frozen_of_row _ _ 0 _ _ h.pos
  have HT := Lib.hid (take_any s p k V (by omega) (by omega))
  obtain ⟨q, hq⟩ : ∃ q, q = p + k := ⟨_, rfl⟩
  have hpm : (p : Int) + (k : Int) = (q : Int) := by omega
  have hw : IntKind.i64.wrap (q : Int) = (q : Int) := IntWalk.i64_in _ (by omega)
  have hq2 : q ≤ 2000 := by omega
  have HEND := Lib.hid (show RdM W s g B q m (V.setCell ⟨B + 1, 0, none⟩ (.int .i64 (q : Int))) from by
    have h1 := h.lo
    have h2 := h.hi
    refine ⟨?_, ?_, heap_setCell_same _ (B + 1) 0 _ _ _ h.pos, grown_new h.gr (by omega), h.lo, h.hi⟩
    · exact (heap_setCell_other V ⟨B + 1, 0, none⟩ g _ (by simp only; omega)).trans h.box
    · exact (heap_setCell_other V ⟨B + 1, 0, none⟩ B _ (by simp)).trans h.str)
  have HQ := Lib.hid hq
  clear hq h hk hp hs
  go_enter Try.func96, Try.ntmps96
  go_wp2_with fail
  refine HT.out.mono ?_
  rintro e w ⟨rfl, rfl⟩
  go_wp2_with fail
  go_returns
  exact ⟨rfl, by rw [← HQ.out]; exact HEND.out⟩

set_option maxHeartbeats 3200000 in
theorem read4_any (s : ByteArray) (g : Nat) (m : Ms) (W : World) (hs : s.size ≤ 1000) (hb : BoxM g m none 0 W) : Calls Try.prog 75 #[.string s, .pointer (some ⟨g, 0, none⟩)] W fun e W' => e = .returned (.bool (decide (s.data.toList.length = 12))) ∧ BoxM g { m with dst := (tk s 0 1 : Nat), hops := (tk s 1 1 : Nat), wi := ⟨(tk s 2 1 : Nat), tk s 3 4, tk s 7 4, tk s 11 1⟩ } none 0 W' ∧ W.grownBy W' (some g) := by
  have hlo := (Array.getElem?_eq_some_iff.1 hb).1
  obtain ⟨t0, ht0⟩ : ∃ t, t = tk s 0 1 := ⟨_, rfl⟩
  have l0 : t0 < 256 ^ 1 := by rw [ht0]; exact tk_lt s 0 (by omega)
  have HT0 := Lib.hid ht0
  have w0 : IntKind.i64.wrap (t0 : Int) = (t0 : Int) := IntWalk.i64_in _ (by omega)
  obtain ⟨t1, ht1⟩ : ∃ t, t = tk s 1 1 := ⟨_, rfl⟩
  have l1 : t1 < 256 ^ 1 := by rw [ht1]; exact tk_lt s 1 (by omega)
  have HT1 := Lib.hid ht1
  have w1 : IntKind.i64.wrap (t1 : Int) = (t1 : Int) := IntWalk.i64_in _ (by omega)
  obtain ⟨t2, ht2⟩ : ∃ t, t = tk s 2 1 := ⟨_, rfl⟩
  have l2 : t2 < 256 ^ 1 := by rw [ht2]; exact tk_lt s 2 (by omega)
  have HT2 := Lib.hid ht2
  have w2 : IntKind.i64.wrap (t2 : Int) = (t2 : Int) := IntWalk.i64_in _ (by omega)
  obtain ⟨t3, ht3⟩ : ∃ t, t = tk s 3 4 := ⟨_, rfl⟩
  have l3 : t3 < 256 ^ 4 := by rw [ht3]; exact tk_lt s 3 (by omega)
  have HT3 := Lib.hid ht3
  have w3 : IntKind.u32.wrap (t3 : Int) = (t3 : Int) := IntWalk.u32_in _ (by omega)
  obtain ⟨t4, ht4⟩ : ∃ t, t = tk s 7 4 := ⟨_, rfl⟩
  have l4 : t4 < 256 ^ 4 := by rw [ht4]; exact tk_lt s 7 (by omega)
  have HT4 := Lib.hid ht4
  have w4 : IntKind.u32.wrap (t4 : Int) = (t4 : Int) := IntWalk.u32_in _ (by omega)
  obtain ⟨t5, ht5⟩ : ∃ t, t = tk s 11 1 := ⟨_, rfl⟩
  have l5 : t5 < 256 ^ 1 := by rw [ht5]; exact tk_lt s 11 (by omega)
  have HT5 := Lib.hid ht5
  have w5 : IntKind.u8.wrap (t5 : Int) = (t5 : Int) := IntWalk.u8_in _ (by omega)
  have HE := Lib.hid (show ((s.size : Int) == 12) = decide (s.data.toList.length = 12) from by
    rw [size_len, Bool.eq_iff_iff, beq_iff_eq, decide_eq_true_eq]; omega)
  have er := enter_take1
  have HTK := Lib.hid (take1_any W s g W.heap.size)
  have HTA := Lib.hid (taker_any s W)
  have HBX := Lib.hid hb
  have HLO := Lib.hid hlo
  have HS := Lib.hid hs
  have hss : s.size ≤ 1000 := hs
  clear hb hlo hs ht0 ht1 ht2 ht3 ht4 ht5
  go_enter Try.func75, Try.ntmps75
  go_wp2_with fail
  refine HTA.out.mono ?_
  rintro e V0 ⟨rfl, h1, h2, hb⟩
  have R0 := Lib.hid (show RdM W s g W.heap.size 0 m V0 from ⟨HBX.out.later hb, h1, h2, grown_below hb, HLO.out, Nat.le_refl _⟩)
  clear h1 h2 hb
  go_wp2_with fail
  refine (HTK.out 0 1 _ _ R0.out (by omega) (by omega) HS.out).mono ?_
  rintro e V1 ⟨rfl, h⟩
  have R1 := Lib.hid h
  clear h
  simp only [Nat.zero_add, Nat.reduceAdd] at *
  rw [← HT0.out]
  go_wp2_with fail
  refine (HTK.out 1 1 _ _ R1.out (by omega) (by omega) HS.out).mono ?_
  rintro e V2 ⟨rfl, h⟩
  have R2 := Lib.hid h
  clear h
  simp only [Nat.zero_add, Nat.reduceAdd] at *
  rw [← HT1.out]
  have x21 : V2.cell? ⟨g, 21, none⟩ = some (.int .i64 m.dst) := R2.out.box.cell rfl
  have f21 : V2.frozen? ⟨g, 21, none⟩ = false := R2.out.box.frz 21
  have x22 : V2.cell? ⟨g, 22, none⟩ = some (.int .i64 m.hops) := R2.out.box.cell rfl
  have f22 : V2.frozen? ⟨g, 22, none⟩ = false := R2.out.box.frz 22
  have RA := Lib.hid (show RdM W s g W.heap.size 2 { m with dst := (t0 : Int), hops := (t1 : Int) } ((V2.setCell ⟨g, 21, none⟩ (.int .i64 (t0 : Int))).setCell ⟨g, 22, none⟩ (.int .i64 (t1 : Int))) from (R2.out.set (n := { m with dst := (t0 : Int) }) rfl).set rfl)
  go_wp2_with fail
  clear x21 x22 f21 f22
  refine (HTK.out 2 1 _ _ RA.out (by omega) (by omega) HS.out).mono ?_
  rintro e V3 ⟨rfl, h⟩
  have R3 := Lib.hid h
  clear h
  simp only [Nat.zero_add, Nat.reduceAdd] at *
  rw [← HT2.out]
  go_wp2_with fail
  refine (HTK.out 3 4 _ _ R3.out (by omega) (by omega) HS.out).mono ?_
  rintro e V4 ⟨rfl, h⟩
  have R4 := Lib.hid h
  clear h
  simp only [Nat.zero_add, Nat.reduceAdd] at *
  rw [← HT3.out]
  go_wp2_with fail
  refine (HTK.out 7 4 _ _ R4.out (by omega) (by omega) HS.out).mono ?_
  rintro e V5 ⟨rfl, h⟩
  have R5 := Lib.hid h
  clear h
  simp only [Nat.zero_add, Nat.reduceAdd] at *
  rw [← HT4.out]
  go_wp2_with fail
  refine (HTK.out 11 1 _ _ R5.out (by omega) (by omega) HS.out).mono ?_
  rintro e V6 ⟨rfl, h⟩
  have R6 := Lib.hid h
  clear h
  simp only [Nat.zero_add, Nat.reduceAdd] at *
  rw [← HT5.out]
  have x23 : V6.cell? ⟨g, 23, none⟩ = some (.int .i64 m.wi.frm) := R6.out.box.cell rfl
  have f23 : V6.frozen? ⟨g, 23, none⟩ = false := R6.out.box.frz 23
  have x24 : V6.cell? ⟨g, 24, none⟩ = some (.int .u32 m.wi.ep) := R6.out.box.cell rfl
  have f24 : V6.frozen? ⟨g, 24, none⟩ = false := R6.out.box.frz 24
  have x25 : V6.cell? ⟨g, 25, none⟩ = some (.int .u32 m.wi.ver) := R6.out.box.cell rfl
  have f25 : V6.frozen? ⟨g, 25, none⟩ = false := R6.out.box.frz 25
  have x26 : V6.cell? ⟨g, 26, none⟩ = some (.int .u8 m.wi.grp) := R6.out.box.cell rfl
  have f26 : V6.frozen? ⟨g, 26, none⟩ = false := R6.out.box.frz 26
  have RZ := Lib.hid (show RdM W s g W.heap.size 12 { m with dst := (t0 : Int), hops := (t1 : Int), wi := ⟨(t2 : Int), t3, t4, t5⟩ } ((((V6.setCell ⟨g, 23, none⟩ (.int .i64 (t2 : Int))).setCell ⟨g, 24, none⟩ (.int .u32 (t3 : Int))).setCell ⟨g, 25, none⟩ (.int .u32 (t4 : Int))).setCell ⟨g, 26, none⟩ (.int .u8 (t5 : Int))) from (RdM.set (n := { m with dst := (t0 : Int), hops := (t1 : Int), wi := ⟨(t2 : Int), t3, t4, t5⟩ }) (RdM.set (n := { m with dst := (t0 : Int), hops := (t1 : Int), wi := ⟨(t2 : Int), t3, t4, m.wi.grp⟩ }) (RdM.set (n := { m with dst := (t0 : Int), hops := (t1 : Int), wi := ⟨(t2 : Int), t3, m.wi.ver, m.wi.grp⟩ }) (RdM.set (n := { m with dst := (t0 : Int), hops := (t1 : Int), wi := ⟨(t2 : Int), m.wi.ep, m.wi.ver, m.wi.grp⟩ }) R6.out rfl) rfl) rfl) rfl))
  go_wp2_with fail
  go_returns
  rw [← HT0.out, ← HT1.out, ← HT2.out, ← HT3.out, ← HT4.out, ← HT5.out]
  exact ⟨by rw [← HE.out]; rfl, RZ.out.box, RZ.out.gr⟩
set_option maxHeartbeats 3200000 in
theorem read5_any (s : ByteArray) (g : Nat) (m : Ms) (W : World) (hs : s.size ≤ 1000) (hb : BoxM g m none 0 W) : Calls Try.prog 79 #[.string s, .pointer (some ⟨g, 0, none⟩)] W fun e W' => e = .returned (.bool (decide (s.data.toList.length = 16))) ∧ BoxM g { m with dst := (tk s 0 1 : Nat), hops := (tk s 1 1 : Nat), ak := ⟨(tk s 2 1 : Nat), tk s 3 4, (tk s 7 1 : Nat), tk s 8 4, tk s 12 4⟩ } none 0 W' ∧ W.grownBy W' (some g) := by
  have hlo := (Array.getElem?_eq_some_iff.1 hb).1
  obtain ⟨t0, ht0⟩ : ∃ t, t = tk s 0 1 := ⟨_, rfl⟩
  have l0 : t0 < 256 ^ 1 := by rw [ht0]; exact tk_lt s 0 (by omega)
  have HT0 := Lib.hid ht0
  have w0 : IntKind.i64.wrap (t0 : Int) = (t0 : Int) := IntWalk.i64_in _ (by omega)
  obtain ⟨t1, ht1⟩ : ∃ t, t = tk s 1 1 := ⟨_, rfl⟩
  have l1 : t1 < 256 ^ 1 := by rw [ht1]; exact tk_lt s 1 (by omega)
  have HT1 := Lib.hid ht1
  have w1 : IntKind.i64.wrap (t1 : Int) = (t1 : Int) := IntWalk.i64_in _ (by omega)
  obtain ⟨t2, ht2⟩ : ∃ t, t = tk s 2 1 := ⟨_, rfl⟩
  have l2 : t2 < 256 ^ 1 := by rw [ht2]; exact tk_lt s 2 (by omega)
  have HT2 := Lib.hid ht2
  have w2 : IntKind.i64.wrap (t2 : Int) = (t2 : Int) := IntWalk.i64_in _ (by omega)
  obtain ⟨t3, ht3⟩ : ∃ t, t = tk s 3 4 := ⟨_, rfl⟩
  have l3 : t3 < 256 ^ 4 := by rw [ht3]; exact tk_lt s 3 (by omega)
  have HT3 := Lib.hid ht3
  have w3 : IntKind.u32.wrap (t3 : Int) = (t3 : Int) := IntWalk.u32_in _ (by omega)
  obtain ⟨t4, ht4⟩ : ∃ t, t = tk s 7 1 := ⟨_, rfl⟩
  have l4 : t4 < 256 ^ 1 := by rw [ht4]; exact tk_lt s 7 (by omega)
  have HT4 := Lib.hid ht4
  have w4 : IntKind.i64.wrap (t4 : Int) = (t4 : Int) := IntWalk.i64_in _ (by omega)
  obtain ⟨t5, ht5⟩ : ∃ t, t = tk s 8 4 := ⟨_, rfl⟩
  have l5 : t5 < 256 ^ 4 := by rw [ht5]; exact tk_lt s 8 (by omega)
  have HT5 := Lib.hid ht5
  have w5 : IntKind.u32.wrap (t5 : Int) = (t5 : Int) := IntWalk.u32_in _ (by omega)
  obtain ⟨t6, ht6⟩ : ∃ t, t = tk s 12 4 := ⟨_, rfl⟩
  have l6 : t6 < 256 ^ 4 := by rw [ht6]; exact tk_lt s 12 (by omega)
  have HT6 := Lib.hid ht6
  have w6 : IntKind.u32.wrap (t6 : Int) = (t6 : Int) := IntWalk.u32_in _ (by omega)
  have HE := Lib.hid (show ((s.size : Int) == 16) = decide (s.data.toList.length = 16) from by
    rw [size_len, Bool.eq_iff_iff, beq_iff_eq, decide_eq_true_eq]; omega)
  have er := enter_take1
  have HTK := Lib.hid (take1_any W s g W.heap.size)
  have HTA := Lib.hid (taker_any s W)
  have HBX := Lib.hid hb
  have HLO := Lib.hid hlo
  have HS := Lib.hid hs
  have hss : s.size ≤ 1000 := hs
  clear hb hlo hs ht0 ht1 ht2 ht3 ht4 ht5 ht6
  go_enter Try.func79, Try.ntmps79
  go_wp2_with fail
  refine HTA.out.mono ?_
  rintro e V0 ⟨rfl, h1, h2, hb⟩
  have R0 := Lib.hid (show RdM W s g W.heap.size 0 m V0 from ⟨HBX.out.later hb, h1, h2, grown_below hb, HLO.out, Nat.le_refl _⟩)
  clear h1 h2 hb
  go_wp2_with fail
  refine (HTK.out 0 1 _ _ R0.out (by omega) (by omega) HS.out).mono ?_
  rintro e V1 ⟨rfl, h⟩
  have R1 := Lib.hid h
  clear h
  simp only [Nat.zero_add, Nat.reduceAdd] at *
  rw [← HT0.out]
  go_wp2_with fail
  refine (HTK.out 1 1 _ _ R1.out (by omega) (by omega) HS.out).mono ?_
  rintro e V2 ⟨rfl, h⟩
  have R2 := Lib.hid h
  clear h
  simp only [Nat.zero_add, Nat.reduceAdd] at *
  rw [← HT1.out]
  have x21 : V2.cell? ⟨g, 21, none⟩ = some (.int .i64 m.dst) := R2.out.box.cell rfl
  have f21 : V2.frozen? ⟨g, 21, none⟩ = false := R2.out.box.frz 21
  have x22 : V2.cell? ⟨g, 22, none⟩ = some (.int .i64 m.hops) := R2.out.box.cell rfl
  have f22 : V2.frozen? ⟨g, 22, none⟩ = false := R2.out.box.frz 22
  have RA := Lib.hid (show RdM W s g W.heap.size 2 { m with dst := (t0 : Int), hops := (t1 : Int) } ((V2.setCell ⟨g, 21, none⟩ (.int .i64 (t0 : Int))).setCell ⟨g, 22, none⟩ (.int .i64 (t1 : Int))) from (R2.out.set (n := { m with dst := (t0 : Int) }) rfl).set rfl)
  go_wp2_with fail
  clear x21 x22 f21 f22
  refine (HTK.out 2 1 _ _ RA.out (by omega) (by omega) HS.out).mono ?_
  rintro e V3 ⟨rfl, h⟩
  have R3 := Lib.hid h
  clear h
  simp only [Nat.zero_add, Nat.reduceAdd] at *
  rw [← HT2.out]
  go_wp2_with fail
  refine (HTK.out 3 4 _ _ R3.out (by omega) (by omega) HS.out).mono ?_
  rintro e V4 ⟨rfl, h⟩
  have R4 := Lib.hid h
  clear h
  simp only [Nat.zero_add, Nat.reduceAdd] at *
  rw [← HT3.out]
  go_wp2_with fail
  refine (HTK.out 7 1 _ _ R4.out (by omega) (by omega) HS.out).mono ?_
  rintro e V5 ⟨rfl, h⟩
  have R5 := Lib.hid h
  clear h
  simp only [Nat.zero_add, Nat.reduceAdd] at *
  rw [← HT4.out]
  go_wp2_with fail
  refine (HTK.out 8 4 _ _ R5.out (by omega) (by omega) HS.out).mono ?_
  rintro e V6 ⟨rfl, h⟩
  have R6 := Lib.hid h
  clear h
  simp only [Nat.zero_add, Nat.reduceAdd] at *
  rw [← HT5.out]
  go_wp2_with fail
  refine (HTK.out 12 4 _ _ R6.out (by omega) (by omega) HS.out).mono ?_
  rintro e V7 ⟨rfl, h⟩
  have R7 := Lib.hid h
  clear h
  simp only [Nat.zero_add, Nat.reduceAdd] at *
  rw [← HT6.out]
  have x27 : V7.cell? ⟨g, 27, none⟩ = some (.int .i64 m.ak.frm) := R7.out.box.cell rfl
  have f27 : V7.frozen? ⟨g, 27, none⟩ = false := R7.out.box.frz 27
  have x28 : V7.cell? ⟨g, 28, none⟩ = some (.int .u32 m.ak.ep) := R7.out.box.cell rfl
  have f28 : V7.frozen? ⟨g, 28, none⟩ = false := R7.out.box.frz 28
  have x29 : V7.cell? ⟨g, 29, none⟩ = some (.int .i64 m.ak.dst) := R7.out.box.cell rfl
  have f29 : V7.frozen? ⟨g, 29, none⟩ = false := R7.out.box.frz 29
  have x30 : V7.cell? ⟨g, 30, none⟩ = some (.int .u32 m.ak.lif) := R7.out.box.cell rfl
  have f30 : V7.frozen? ⟨g, 30, none⟩ = false := R7.out.box.frz 30
  have x31 : V7.cell? ⟨g, 31, none⟩ = some (.int .u32 m.ak.ver) := R7.out.box.cell rfl
  have f31 : V7.frozen? ⟨g, 31, none⟩ = false := R7.out.box.frz 31
  have RZ := Lib.hid (show RdM W s g W.heap.size 16 { m with dst := (t0 : Int), hops := (t1 : Int), ak := ⟨(t2 : Int), t3, (t4 : Int), t5, t6⟩ } (((((V7.setCell ⟨g, 27, none⟩ (.int .i64 (t2 : Int))).setCell ⟨g, 28, none⟩ (.int .u32 (t3 : Int))).setCell ⟨g, 29, none⟩ (.int .i64 (t4 : Int))).setCell ⟨g, 30, none⟩ (.int .u32 (t5 : Int))).setCell ⟨g, 31, none⟩ (.int .u32 (t6 : Int))) from (RdM.set (n := { m with dst := (t0 : Int), hops := (t1 : Int), ak := ⟨(t2 : Int), t3, (t4 : Int), t5, t6⟩ }) (RdM.set (n := { m with dst := (t0 : Int), hops := (t1 : Int), ak := ⟨(t2 : Int), t3, (t4 : Int), t5, m.ak.ver⟩ }) (RdM.set (n := { m with dst := (t0 : Int), hops := (t1 : Int), ak := ⟨(t2 : Int), t3, (t4 : Int), m.ak.lif, m.ak.ver⟩ }) (RdM.set (n := { m with dst := (t0 : Int), hops := (t1 : Int), ak := ⟨(t2 : Int), t3, m.ak.dst, m.ak.lif, m.ak.ver⟩ }) (RdM.set (n := { m with dst := (t0 : Int), hops := (t1 : Int), ak := ⟨(t2 : Int), m.ak.ep, m.ak.dst, m.ak.lif, m.ak.ver⟩ }) R7.out rfl) rfl) rfl) rfl) rfl))
  go_wp2_with fail
  go_returns
  rw [← HT0.out, ← HT1.out, ← HT2.out, ← HT3.out, ← HT4.out, ← HT5.out, ← HT6.out]
  exact ⟨by rw [← HE.out]; rfl, RZ.out.box, RZ.out.gr⟩

end Go.Proofs.Ytickjmkkgcfkhaa
