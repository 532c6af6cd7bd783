import Derived.Test.YtickjmkkgcfkhaaGreatMsB
import Derived.Test.YtickjmkkgcfkhaaGreatMsP
import Derived.Test.YtickjmkkgcfkhaaGreatRecL
import Derived.Test.YtickjmkkgcfkhaaGreatHdK
/- Contracts of the message: the parts of bytes. (Printed by mkmsi.py.) -/
set_option linter.unusedSimpArgs false
set_option linter.unusedVariables false
set_option maxRecDepth 100000
set_option maxRecDepth 100000
namespace Go.Proofs.YtickjmkkgcfkhaaGreat
open Go.RowKit Go.ChangeShapes Go.WideShapes

theorem grown_set {W V : World} {g i : Nat} {v : Value} (h : W.grownBy V (some g)) : W.grownBy (V.setCell ⟨g, i, none⟩ v) (some g) :=
  ⟨h.os, h.tape, h.output, by have := h.size; simpa using this, fun k hk hne => (heap_setCell_other V ⟨g, i, none⟩ k v (fun e => hne (by rw [e]))).trans (h.block k hk hne)⟩
theorem grown_new {W V : World} {g p i : Nat} {v : Value} (h : W.grownBy V (some g)) (hp : W.heap.size ≤ p) : W.grownBy (V.setCell ⟨p, i, none⟩ v) (some g) :=
  ⟨h.os, h.tape, h.output, by have := h.size; simpa using this, fun k hk hne => (heap_setCell_other V ⟨p, i, none⟩ k v (fun e => by simp only at e; omega)).trans (h.block k hk hne)⟩
theorem grown_below {W V : World} {g : Nat} (h : Below W.heap.size W V) : W.grownBy V (some g) := ⟨h.os, h.tape, h.output, h.size, fun k hk _ => h.block k hk⟩
theorem BoxM.set {b i : Nat} {m n : Ms} {sa ta : Option Addr} {sc tc : Nat} {v : Value} {V : World} (h : BoxM b m sa sc V) (he : (m.cs sa sc).setIfInBounds i v = n.cs ta tc) : BoxM b n ta tc (V.setCell ⟨b, i, none⟩ v) := by
  have := heap_setCell_same V b i _ _ v h
  rw [he] at this
  exact this
theorem BoxM.frz {b : Nat} {m : Ms} {sa : Option Addr} {sc : Nat} {V : World} (h : BoxM b m sa sc V) (i : Nat) : V.frozen? ⟨b, i, none⟩ = false := frozen_of_row _ _ i _ _ h

set_option maxHeartbeats 3200000 in
theorem read1_any (s : ByteArray) (g : Nat) (m : Ms) (W : World) (hs : s.size ≤ 1000) (hb : BoxM g m none 0 W) : Calls Tryz.prog 46 #[.string s, .pointer (some ⟨g, 0, none⟩)] W fun e W' => e = .returned (.bool (decide (decE s.data.toList = 0))) ∧ (∃ sa sc, BoxM g { m with rc := decR s.data.toList } sa sc W' ∧ ARow W' W.heap.size sa sc (decR s.data.toList).adjs) ∧ W.grownBy W' (some g) := by
  have HC := Lib.hid (decode_any s W (by omega))
  have HBX := Lib.hid hb
  obtain ⟨e0, he0⟩ : ∃ e, e = decE s.data.toList := ⟨_, rfl⟩
  obtain ⟨r, hr⟩ : ∃ r, r = decR s.data.toList := ⟨_, rfl⟩
  rw [← he0, ← hr] at HC
  have HE0 := Lib.hid he0
  have HRR := Lib.hid hr
  clear hb he0 hr hs
  go_enter Tryz.func46, Tryz.ntmps46
  go_wp2_with fail
  refine HC.out.mono ?_
  rintro e V ⟨sa, sc, rfl, hrow, hb⟩
  have HROW := Lib.hid hrow
  unfold Rc.ag Rc.cs
  have HG := Lib.hid (grown_below (g := g) hb)
  have HBV := Lib.hid (HBX.out.later hb)
  have x1 : V.cell? ⟨g, 1, none⟩ = some (.int .i64 m.rc.org) := HBV.out.cell rfl
  have f1 : V.frozen? ⟨g, 1, none⟩ = false := HBV.out.frz 1
  have x2 : V.cell? ⟨g, 2, none⟩ = some (.int .u32 m.rc.ep) := HBV.out.cell rfl
  have f2 : V.frozen? ⟨g, 2, none⟩ = false := HBV.out.frz 2
  have x3 : V.cell? ⟨g, 3, none⟩ = some (.int .u32 m.rc.sq) := HBV.out.cell rfl
  have f3 : V.frozen? ⟨g, 3, none⟩ = false := HBV.out.frz 3
  have x4 : V.cell? ⟨g, 4, none⟩ = some (.int .i64 m.rc.clm) := HBV.out.cell rfl
  have f4 : V.frozen? ⟨g, 4, none⟩ = false := HBV.out.frz 4
  have x5 : V.cell? ⟨g, 5, none⟩ = some (.bool m.rc.ing) := HBV.out.cell rfl
  have f5 : V.frozen? ⟨g, 5, none⟩ = false := HBV.out.frz 5
  have x6 : V.cell? ⟨g, 6, none⟩ = some (.slice none m.rc.adjs.length 0) := HBV.out.cell rfl
  have f6 : V.frozen? ⟨g, 6, none⟩ = false := HBV.out.frz 6
  clear hb hrow
  have HN := Lib.hid (show BoxM g { m with rc := r } sa sc ((((((V.setCell ⟨g, 1, none⟩ (.int .i64 r.org)).setCell ⟨g, 2, none⟩ (.int .u32 r.ep)).setCell ⟨g, 3, none⟩ (.int .u32 r.sq)).setCell ⟨g, 4, none⟩ (.int .i64 r.clm)).setCell ⟨g, 5, none⟩ (.bool r.ing)).setCell ⟨g, 6, none⟩ (.slice sa r.adjs.length sc)) ∧ W.grownBy ((((((V.setCell ⟨g, 1, none⟩ (.int .i64 r.org)).setCell ⟨g, 2, none⟩ (.int .u32 r.ep)).setCell ⟨g, 3, none⟩ (.int .u32 r.sq)).setCell ⟨g, 4, none⟩ (.int .i64 r.clm)).setCell ⟨g, 5, none⟩ (.bool r.ing)).setCell ⟨g, 6, none⟩ (.slice sa r.adjs.length sc)) (some g) from by
    refine ⟨?_, grown_set (grown_set (grown_set (grown_set (grown_set (grown_set (HG.out))))))⟩
    have h := (heap_setCell_same _ g 6 _ _ (.slice sa r.adjs.length sc) (heap_setCell_same _ g 5 _ _ (.bool r.ing) (heap_setCell_same _ g 4 _ _ (.int .i64 r.clm) (heap_setCell_same _ g 3 _ _ (.int .u32 r.sq) (heap_setCell_same _ g 2 _ _ (.int .u32 r.ep) (heap_setCell_same _ g 1 _ _ (.int .i64 r.org) HBV.out))))))
    unfold Ms.cs at h
    simp only [List.setIfInBounds_toArray, List.set_cons_succ, List.set_cons_zero] at h
    unfold BoxM Ms.cs
    exact h)
  go_wp2_with fail
  go_returns
  refine ⟨by rw [← HE0.out]; rfl, ⟨sa, sc, by rw [← HRR.out]; exact HN.out.1, ?_⟩, HN.out.2⟩
  rw [← HRR.out]
  exact HROW.out.same fun k hk => by
    have h1 := (HROW.out.lt k hk).1
    have h2 := (Array.getElem?_eq_some_iff.1 HBX.out).1
    have hne : k ≠ g := by omega
    iterate 6 rw [heap_setCell_other _ _ _ _ hne]
set_option maxHeartbeats 3200000 in
theorem read2_any (s : ByteArray) (g : Nat) (m : Ms) (W : World) (hs : s.size ≤ 1000) (hb : BoxM g m none 0 W) : Calls Tryz.prog 51 #[.string s, .pointer (some ⟨g, 0, none⟩)] W fun e W' => e = .returned (.bool (decide (decSE s.data.toList = 0))) ∧ BoxM g { m with st := decS s.data.toList } none 0 W' ∧ W.grownBy W' (some g) := by
  have HC := Lib.hid (decst_any s W (by omega))
  have HBX := Lib.hid hb
  obtain ⟨e0, he0⟩ : ∃ e, e = decSE s.data.toList := ⟨_, rfl⟩
  obtain ⟨r, hr⟩ : ∃ r, r = decS s.data.toList := ⟨_, rfl⟩
  rw [← he0, ← hr] at HC
  have HE0 := Lib.hid he0
  have HRR := Lib.hid hr
  clear hb he0 hr hs
  go_enter Tryz.func51, Tryz.ntmps51
  go_wp2_with fail
  refine HC.out.mono ?_
  rintro e V ⟨rfl, hb⟩
  unfold St.ag St.cs
  have HG := Lib.hid (grown_below (g := g) hb)
  have HBV := Lib.hid (HBX.out.later hb)
  have x7 : V.cell? ⟨g, 7, none⟩ = some (.int .i64 m.st.org) := HBV.out.cell rfl
  have f7 : V.frozen? ⟨g, 7, none⟩ = false := HBV.out.frz 7
  have x8 : V.cell? ⟨g, 8, none⟩ = some (.int .u32 m.st.ep) := HBV.out.cell rfl
  have f8 : V.frozen? ⟨g, 8, none⟩ = false := HBV.out.frz 8
  have x9 : V.cell? ⟨g, 9, none⟩ = some (.int .u32 m.st.sq) := HBV.out.cell rfl
  have f9 : V.frozen? ⟨g, 9, none⟩ = false := HBV.out.frz 9
  clear hb
  have HN := Lib.hid (show BoxM g { m with st := r } none 0 (((V.setCell ⟨g, 7, none⟩ (.int .i64 r.org)).setCell ⟨g, 8, none⟩ (.int .u32 r.ep)).setCell ⟨g, 9, none⟩ (.int .u32 r.sq)) ∧ W.grownBy (((V.setCell ⟨g, 7, none⟩ (.int .i64 r.org)).setCell ⟨g, 8, none⟩ (.int .u32 r.ep)).setCell ⟨g, 9, none⟩ (.int .u32 r.sq)) (some g) from by
    refine ⟨?_, grown_set (grown_set (grown_set (HG.out)))⟩
    have h := (heap_setCell_same _ g 9 _ _ (.int .u32 r.sq) (heap_setCell_same _ g 8 _ _ (.int .u32 r.ep) (heap_setCell_same _ g 7 _ _ (.int .i64 r.org) HBV.out)))
    unfold Ms.cs at h
    simp only [List.setIfInBounds_toArray, List.set_cons_succ, List.set_cons_zero] at h
    unfold BoxM Ms.cs
    exact h)
  go_wp2_with fail
  go_returns
  exact ⟨by rw [← HE0.out]; rfl, by rw [← HRR.out]; exact HN.out.1, HN.out.2⟩
set_option maxHeartbeats 3200000 in
theorem read3_any (s : ByteArray) (g : Nat) (m : Ms) (W : World) (hs : s.size ≤ 1000) (hb : BoxM g m none 0 W) : Calls Tryz.prog 57 #[.string s, .pointer (some ⟨g, 0, none⟩)] W fun e W' => e = .returned (.bool (decide (decHE s = 0))) ∧ BoxM g { m with hd := decH s } none 0 W' ∧ W.grownBy W' (some g) := by
  have HC := Lib.hid (hdecode_any s W (by omega))
  have HBX := Lib.hid hb
  obtain ⟨e0, he0⟩ : ∃ e, e = decHE s := ⟨_, rfl⟩
  obtain ⟨r, hr⟩ : ∃ r, r = decH s := ⟨_, rfl⟩
  rw [← he0, ← hr] at HC
  have HE0 := Lib.hid he0
  have HRR := Lib.hid hr
  clear hb he0 hr hs
  go_enter Tryz.func57, Tryz.ntmps57
  go_wp2_with fail
  refine HC.out.mono ?_
  rintro e V ⟨rfl, hb⟩
  unfold Hd.ag Hd.cs
  have HG := Lib.hid (grown_below (g := g) hb)
  have HBV := Lib.hid (HBX.out.later hb)
  have x10 : V.cell? ⟨g, 10, none⟩ = some (.int .i64 m.hd.wid) := HBV.out.cell rfl
  have f10 : V.frozen? ⟨g, 10, none⟩ = false := HBV.out.frz 10
  have x11 : V.cell? ⟨g, 11, none⟩ = some (.int .i64 m.hd.set) := HBV.out.cell rfl
  have f11 : V.frozen? ⟨g, 11, none⟩ = false := HBV.out.frz 11
  have x12 : V.cell? ⟨g, 12, none⟩ = some (.int .u32 m.hd.ent) := HBV.out.cell rfl
  have f12 : V.frozen? ⟨g, 12, none⟩ = false := HBV.out.frz 12
  have x13 : V.cell? ⟨g, 13, none⟩ = some (.int .i64 m.hd.hops) := HBV.out.cell rfl
  have f13 : V.frozen? ⟨g, 13, none⟩ = false := HBV.out.frz 13
  have x14 : V.cell? ⟨g, 14, none⟩ = some (.int .i64 m.hd.src) := HBV.out.cell rfl
  have f14 : V.frozen? ⟨g, 14, none⟩ = false := HBV.out.frz 14
  have x15 : V.cell? ⟨g, 15, none⟩ = some (.int .i64 m.hd.grp) := HBV.out.cell rfl
  have f15 : V.frozen? ⟨g, 15, none⟩ = false := HBV.out.frz 15
  have x16 : V.cell? ⟨g, 16, none⟩ = some (.int .u32 m.hd.id) := HBV.out.cell rfl
  have f16 : V.frozen? ⟨g, 16, none⟩ = false := HBV.out.frz 16
  have x17 : V.cell? ⟨g, 17, none⟩ = some (.int .u64 m.hd.bits.a) := HBV.out.cell rfl
  have f17 : V.frozen? ⟨g, 17, none⟩ = false := HBV.out.frz 17
  have x18 : V.cell? ⟨g, 18, none⟩ = some (.int .u64 m.hd.bits.b) := HBV.out.cell rfl
  have f18 : V.frozen? ⟨g, 18, none⟩ = false := HBV.out.frz 18
  have x19 : V.cell? ⟨g, 19, none⟩ = some (.int .u64 m.hd.bits.c) := HBV.out.cell rfl
  have f19 : V.frozen? ⟨g, 19, none⟩ = false := HBV.out.frz 19
  have x20 : V.cell? ⟨g, 20, none⟩ = some (.int .u64 m.hd.bits.d) := HBV.out.cell rfl
  have f20 : V.frozen? ⟨g, 20, none⟩ = false := HBV.out.frz 20
  clear hb
  have HN := Lib.hid (show BoxM g { m with hd := r } none 0 (((((((((((V.setCell ⟨g, 10, none⟩ (.int .i64 r.wid)).setCell ⟨g, 11, none⟩ (.int .i64 r.set)).setCell ⟨g, 12, none⟩ (.int .u32 r.ent)).setCell ⟨g, 13, none⟩ (.int .i64 r.hops)).setCell ⟨g, 14, none⟩ (.int .i64 r.src)).setCell ⟨g, 15, none⟩ (.int .i64 r.grp)).setCell ⟨g, 16, none⟩ (.int .u32 r.id)).setCell ⟨g, 17, none⟩ (.int .u64 r.bits.a)).setCell ⟨g, 18, none⟩ (.int .u64 r.bits.b)).setCell ⟨g, 19, none⟩ (.int .u64 r.bits.c)).setCell ⟨g, 20, none⟩ (.int .u64 r.bits.d)) ∧ W.grownBy (((((((((((V.setCell ⟨g, 10, none⟩ (.int .i64 r.wid)).setCell ⟨g, 11, none⟩ (.int .i64 r.set)).setCell ⟨g, 12, none⟩ (.int .u32 r.ent)).setCell ⟨g, 13, none⟩ (.int .i64 r.hops)).setCell ⟨g, 14, none⟩ (.int .i64 r.src)).setCell ⟨g, 15, none⟩ (.int .i64 r.grp)).setCell ⟨g, 16, none⟩ (.int .u32 r.id)).setCell ⟨g, 17, none⟩ (.int .u64 r.bits.a)).setCell ⟨g, 18, none⟩ (.int .u64 r.bits.b)).setCell ⟨g, 19, none⟩ (.int .u64 r.bits.c)).setCell ⟨g, 20, none⟩ (.int .u64 r.bits.d)) (some g) from by
    refine ⟨?_, grown_set (grown_set (grown_set (grown_set (grown_set (grown_set (grown_set (grown_set (grown_set (grown_set (grown_set (HG.out)))))))))))⟩
    have h := (heap_setCell_same _ g 20 _ _ (.int .u64 r.bits.d) (heap_setCell_same _ g 19 _ _ (.int .u64 r.bits.c) (heap_setCell_same _ g 18 _ _ (.int .u64 r.bits.b) (heap_setCell_same _ g 17 _ _ (.int .u64 r.bits.a) (heap_setCell_same _ g 16 _ _ (.int .u32 r.id) (heap_setCell_same _ g 15 _ _ (.int .i64 r.grp) (heap_setCell_same _ g 14 _ _ (.int .i64 r.src) (heap_setCell_same _ g 13 _ _ (.int .i64 r.hops) (heap_setCell_same _ g 12 _ _ (.int .u32 r.ent) (heap_setCell_same _ g 11 _ _ (.int .i64 r.set) (heap_setCell_same _ g 10 _ _ (.int .i64 r.wid) HBV.out)))))))))))
    unfold Ms.cs at h
    simp only [List.setIfInBounds_toArray, List.set_cons_succ, List.set_cons_zero] at h
    unfold BoxM Ms.cs
    exact h)
  go_wp2_with fail
  go_returns
  exact ⟨by rw [← HE0.out]; rfl, by rw [← HRR.out]; exact HN.out.1, HN.out.2⟩

end Go.Proofs.YtickjmkkgcfkhaaGreat

/- Contracts of the message: the parts of a wish, an ack. (Printed by mkmsk.py.) -/
set_option linter.unusedSimpArgs false
set_option linter.unusedVariables false
set_option maxRecDepth 100000
set_option maxRecDepth 100000
namespace Go.Proofs.YtickjmkkgcfkhaaGreat
open Go.RowKit Go.ChangeShapes Go.WideShapes

/-- While numbers are taken off bytes: the message, the bytes, the place. -/
structure RdM (W : World) (s : ByteArray) (g B p : Nat) (m : Ms) (V : World) : Prop where
  box : BoxM g m none 0 V
  str : V.heap[B]? = some (.cells #[.string s] 9 (0, 0))
  pos : V.heap[B + 1]? = some (.cells #[.int .i64 (p : Int)] 3 (0, 0))
  gr : W.grownBy V (some g)
  lo : g < W.heap.size
  hi : W.heap.size ≤ B
theorem RdM.set {W : World} {s : ByteArray} {g B p i : Nat} {m n : Ms} {v : Value} {V : World} (h : RdM W s g B p m V) (he : (m.cs none 0).setIfInBounds i v = n.cs none 0) : RdM W s g B p n (V.setCell ⟨g, i, none⟩ v) := by
  have h1 := h.lo
  have h2 := h.hi
  exact ⟨h.box.set he, (heap_setCell_other V ⟨g, i, none⟩ B v (by simp only; omega)).trans h.str, (heap_setCell_other V ⟨g, i, none⟩ (B + 1) v (by simp only; omega)).trans h.pos, grown_set h.gr, h.lo, h.hi⟩
theorem taker_any (s : ByteArray) (W : World) : Calls Tryz.prog 65 #[.string s] W fun e W' => e = .returned (.func (.func 91) #[] #[.pointer (some ⟨W.heap.size, 0, none⟩), .pointer (some ⟨W.heap.size + 1, 0, none⟩)]) ∧
    W'.heap[W.heap.size]? = some (.cells #[.string s] 9 (0, 0)) ∧ W'.heap[W.heap.size + 1]? = some (.cells #[.int .i64 0] 3 (0, 0)) ∧ Below W.heap.size W W' := by
  obtain ⟨X, hX⟩ : ∃ X, X = (W.alloc (.cells #[.string s] 9)).alloc (.cells #[.int .i64 0] 3) := ⟨_, rfl⟩
  have HE := Lib.hid (show X.heap[W.heap.size]? = some (.cells #[.string s] 9 (0, 0)) ∧ X.heap[W.heap.size + 1]? = some (.cells #[.int .i64 0] 3 (0, 0)) ∧ Below W.heap.size W X by
    rw [hX]
    exact ⟨heap_alloc2_old _ _ _, heap_alloc2_new _ _ _, ((Below.refl _ _).alloc (Nat.le_refl _) _).alloc (by rw [World.size_alloc]; omega) _⟩)
  have HX := Lib.hid hX
  clear hX
  go_enter Tryz.func65, Tryz.ntmps65
  go_wp2_with fail
  rw [← HX.out]
  go_returns
  exact ⟨rfl, HE.out⟩
theorem enter_take1 (args : Array Value) (w : World) : (callFunc 91 args).run Tryz.prog w = .ok (.enter 91 args) w := enters_of Tryz.func91 (by kernel_rfl) rfl args w
set_option maxHeartbeats 1600000 in
theorem take1_any (W : World) (s : ByteArray) (g B p k : Nat) (m : Ms) (V : World) (h : RdM W s g B p m V) (hk : k = 1 ∨ k = 2 ∨ k = 4) (hp : p ≤ 1000) (hs : s.size ≤ 1000) :
    Calls Tryz.prog 91 #[.int .i64 k, .pointer (some ⟨B, 0, none⟩), .pointer (some ⟨B + 1, 0, none⟩)] V fun e X => e = .returned (.int .u64 (tk s p k : Nat)) ∧ RdM W s g B (p + k) m X := by
  have c0 := (cell_of_row _ _ 0 _ _ _ h.str).trans rfl
  have c1 := (cell_of_row _ _ 0 _ _ _ h.pos).trans rfl
  have f1 := frozen_of_row _ _ 0 _ _ h.pos
  have HT := Lib.hid (take_any s p k V (by omega) (by omega))
  obtain ⟨q, hq⟩ : ∃ q, q = p + k := ⟨_, rfl⟩
  have hpm : (p : Int) + (k : Int) = (q : Int) := by omega
  have hw : IntKind.i64.wrap (q : Int) = (q : Int) := IntWalk.i64_in _ (by omega)
  have hq2 : q ≤ 2000 := by omega
  have HEND := Lib.hid (show RdM W s g B q m (V.setCell ⟨B + 1, 0, none⟩ (.int .i64 (q : Int))) from by
    have h1 := h.lo
    have h2 := h.hi
    refine ⟨?_, ?_, heap_setCell_same _ (B + 1) 0 _ _ _ h.pos, grown_new h.gr (by omega), h.lo, h.hi⟩
    · exact (heap_setCell_other V ⟨B + 1, 0, none⟩ g _ (by simp only; omega)).trans h.box
    · exact (heap_setCell_other V ⟨B + 1, 0, none⟩ B _ (by simp)).trans h.str)
  have HQ := Lib.hid hq
  clear hq h hk hp hs
  go_enter Tryz.func91, Tryz.ntmps91
  go_wp2_with fail
  refine HT.out.mono ?_
  rintro e w ⟨rfl, rfl⟩
  go_wp2_with fail
  go_returns
  exact ⟨rfl, by rw [← HQ.out]; exact HEND.out⟩

set_option maxHeartbeats 3200000 in
theorem read4_any (s : ByteArray) (g : Nat) (m : Ms) (W : World) (hs : s.size ≤ 1000) (hb : BoxM g m none 0 W) : Calls Tryz.prog 64 #[.string s, .pointer (some ⟨g, 0, none⟩)] W fun e W' => e = .returned (.bool (decide (s.data.toList.length = 12))) ∧ BoxM g { m with dst := (tk s 0 1 : Nat), hops := (tk s 1 1 : Nat), wi := ⟨(tk s 2 1 : Nat), tk s 3 4, tk s 7 4, tk s 11 1⟩ } none 0 W' ∧ W.grownBy W' (some g) := by
  have hlo := (Array.getElem?_eq_some_iff.1 hb).1
  obtain ⟨t0, ht0⟩ : ∃ t, t = tk s 0 1 := ⟨_, rfl⟩
  have l0 : t0 < 256 ^ 1 := by rw [ht0]; exact tk_lt s 0 (by omega)
  have HT0 := Lib.hid ht0
  have w0 : IntKind.i64.wrap (t0 : Int) = (t0 : Int) := IntWalk.i64_in _ (by omega)
  obtain ⟨t1, ht1⟩ : ∃ t, t = tk s 1 1 := ⟨_, rfl⟩
  have l1 : t1 < 256 ^ 1 := by rw [ht1]; exact tk_lt s 1 (by omega)
  have HT1 := Lib.hid ht1
  have w1 : IntKind.i64.wrap (t1 : Int) = (t1 : Int) := IntWalk.i64_in _ (by omega)
  obtain ⟨t2, ht2⟩ : ∃ t, t = tk s 2 1 := ⟨_, rfl⟩
  have l2 : t2 < 256 ^ 1 := by rw [ht2]; exact tk_lt s 2 (by omega)
  have HT2 := Lib.hid ht2
  have w2 : IntKind.i64.wrap (t2 : Int) = (t2 : Int) := IntWalk.i64_in _ (by omega)
  obtain ⟨t3, ht3⟩ : ∃ t, t = tk s 3 4 := ⟨_, rfl⟩
  have l3 : t3 < 256 ^ 4 := by rw [ht3]; exact tk_lt s 3 (by omega)
  have HT3 := Lib.hid ht3
  have w3 : IntKind.u32.wrap (t3 : Int) = (t3 : Int) := IntWalk.u32_in _ (by omega)
  obtain ⟨t4, ht4⟩ : ∃ t, t = tk s 7 4 := ⟨_, rfl⟩
  have l4 : t4 < 256 ^ 4 := by rw [ht4]; exact tk_lt s 7 (by omega)
  have HT4 := Lib.hid ht4
  have w4 : IntKind.u32.wrap (t4 : Int) = (t4 : Int) := IntWalk.u32_in _ (by omega)
  obtain ⟨t5, ht5⟩ : ∃ t, t = tk s 11 1 := ⟨_, rfl⟩
  have l5 : t5 < 256 ^ 1 := by rw [ht5]; exact tk_lt s 11 (by omega)
  have HT5 := Lib.hid ht5
  have w5 : IntKind.u8.wrap (t5 : Int) = (t5 : Int) := IntWalk.u8_in _ (by omega)
  have HE := Lib.hid (show ((s.size : Int) == 12) = decide (s.data.toList.length = 12) from by
    rw [size_len, Bool.eq_iff_iff, beq_iff_eq, decide_eq_true_eq]; omega)
  have er := enter_take1
  have HTK := Lib.hid (take1_any W s g W.heap.size)
  have HTA := Lib.hid (taker_any s W)
  have HBX := Lib.hid hb
  have HLO := Lib.hid hlo
  have HS := Lib.hid hs
  have hss : s.size ≤ 1000 := hs
  clear hb hlo hs ht0 ht1 ht2 ht3 ht4 ht5
  go_enter Tryz.func64, Tryz.ntmps64
  go_wp2_with fail
  refine HTA.out.mono ?_
  rintro e V0 ⟨rfl, h1, h2, hb⟩
  have R0 := Lib.hid (show RdM W s g W.heap.size 0 m V0 from ⟨HBX.out.later hb, h1, h2, grown_below hb, HLO.out, Nat.le_refl _⟩)
  clear h1 h2 hb
  go_wp2_with fail
  refine (HTK.out 0 1 _ _ R0.out (by omega) (by omega) HS.out).mono ?_
  rintro e V1 ⟨rfl, h⟩
  have R1 := Lib.hid h
  clear h
  simp only [Nat.zero_add, Nat.reduceAdd] at *
  rw [← HT0.out]
  go_wp2_with fail
  refine (HTK.out 1 1 _ _ R1.out (by omega) (by omega) HS.out).mono ?_
  rintro e V2 ⟨rfl, h⟩
  have R2 := Lib.hid h
  clear h
  simp only [Nat.zero_add, Nat.reduceAdd] at *
  rw [← HT1.out]
  have x21 : V2.cell? ⟨g, 21, none⟩ = some (.int .i64 m.dst) := R2.out.box.cell rfl
  have f21 : V2.frozen? ⟨g, 21, none⟩ = false := R2.out.box.frz 21
  have x22 : V2.cell? ⟨g, 22, none⟩ = some (.int .i64 m.hops) := R2.out.box.cell rfl
  have f22 : V2.frozen? ⟨g, 22, none⟩ = false := R2.out.box.frz 22
  have RA := Lib.hid (show RdM W s g W.heap.size 2 { m with dst := (t0 : Int), hops := (t1 : Int) } ((V2.setCell ⟨g, 21, none⟩ (.int .i64 (t0 : Int))).setCell ⟨g, 22, none⟩ (.int .i64 (t1 : Int))) from (R2.out.set (n := { m with dst := (t0 : Int) }) rfl).set rfl)
  go_wp2_with fail
  clear x21 x22 f21 f22
  refine (HTK.out 2 1 _ _ RA.out (by omega) (by omega) HS.out).mono ?_
  rintro e V3 ⟨rfl, h⟩
  have R3 := Lib.hid h
  clear h
  simp only [Nat.zero_add, Nat.reduceAdd] at *
  rw [← HT2.out]
  go_wp2_with fail
  refine (HTK.out 3 4 _ _ R3.out (by omega) (by omega) HS.out).mono ?_
  rintro e V4 ⟨rfl, h⟩
  have R4 := Lib.hid h
  clear h
  simp only [Nat.zero_add, Nat.reduceAdd] at *
  rw [← HT3.out]
  go_wp2_with fail
  refine (HTK.out 7 4 _ _ R4.out (by omega) (by omega) HS.out).mono ?_
  rintro e V5 ⟨rfl, h⟩
  have R5 := Lib.hid h
  clear h
  simp only [Nat.zero_add, Nat.reduceAdd] at *
  rw [← HT4.out]
  go_wp2_with fail
  refine (HTK.out 11 1 _ _ R5.out (by omega) (by omega) HS.out).mono ?_
  rintro e V6 ⟨rfl, h⟩
  have R6 := Lib.hid h
  clear h
  simp only [Nat.zero_add, Nat.reduceAdd] at *
  rw [← HT5.out]
  have x23 : V6.cell? ⟨g, 23, none⟩ = some (.int .i64 m.wi.frm) := R6.out.box.cell rfl
  have f23 : V6.frozen? ⟨g, 23, none⟩ = false := R6.out.box.frz 23
  have x24 : V6.cell? ⟨g, 24, none⟩ = some (.int .u32 m.wi.ep) := R6.out.box.cell rfl
  have f24 : V6.frozen? ⟨g, 24, none⟩ = false := R6.out.box.frz 24
  have x25 : V6.cell? ⟨g, 25, none⟩ = some (.int .u32 m.wi.ver) := R6.out.box.cell rfl
  have f25 : V6.frozen? ⟨g, 25, none⟩ = false := R6.out.box.frz 25
  have x26 : V6.cell? ⟨g, 26, none⟩ = some (.int .u8 m.wi.grp) := R6.out.box.cell rfl
  have f26 : V6.frozen? ⟨g, 26, none⟩ = false := R6.out.box.frz 26
  have RZ := Lib.hid (show RdM W s g W.heap.size 12 { m with dst := (t0 : Int), hops := (t1 : Int), wi := ⟨(t2 : Int), t3, t4, t5⟩ } ((((V6.setCell ⟨g, 23, none⟩ (.int .i64 (t2 : Int))).setCell ⟨g, 24, none⟩ (.int .u32 (t3 : Int))).setCell ⟨g, 25, none⟩ (.int .u32 (t4 : Int))).setCell ⟨g, 26, none⟩ (.int .u8 (t5 : Int))) from (RdM.set (n := { m with dst := (t0 : Int), hops := (t1 : Int), wi := ⟨(t2 : Int), t3, t4, t5⟩ }) (RdM.set (n := { m with dst := (t0 : Int), hops := (t1 : Int), wi := ⟨(t2 : Int), t3, t4, m.wi.grp⟩ }) (RdM.set (n := { m with dst := (t0 : Int), hops := (t1 : Int), wi := ⟨(t2 : Int), t3, m.wi.ver, m.wi.grp⟩ }) (RdM.set (n := { m with dst := (t0 : Int), hops := (t1 : Int), wi := ⟨(t2 : Int), m.wi.ep, m.wi.ver, m.wi.grp⟩ }) R6.out rfl) rfl) rfl) rfl))
  go_wp2_with fail
  go_returns
  rw [← HT0.out, ← HT1.out, ← HT2.out, ← HT3.out, ← HT4.out, ← HT5.out]
  exact ⟨by rw [← HE.out]; rfl, RZ.out.box, RZ.out.gr⟩
set_option maxHeartbeats 3200000 in
theorem read5_any (s : ByteArray) (g : Nat) (m : Ms) (W : World) (hs : s.size ≤ 1000) (hb : BoxM g m none 0 W) : Calls Tryz.prog 68 #[.string s, .pointer (some ⟨g, 0, none⟩)] W fun e W' => e = .returned (.bool (decide (s.data.toList.length = 16))) ∧ BoxM g { m with dst := (tk s 0 1 : Nat), hops := (tk s 1 1 : Nat), ak := ⟨(tk s 2 1 : Nat), tk s 3 4, (tk s 7 1 : Nat), tk s 8 4, tk s 12 4⟩ } none 0 W' ∧ W.grownBy W' (some g) := by
  have hlo := (Array.getElem?_eq_some_iff.1 hb).1
  obtain ⟨t0, ht0⟩ : ∃ t, t = tk s 0 1 := ⟨_, rfl⟩
  have l0 : t0 < 256 ^ 1 := by rw [ht0]; exact tk_lt s 0 (by omega)
  have HT0 := Lib.hid ht0
  have w0 : IntKind.i64.wrap (t0 : Int) = (t0 : Int) := IntWalk.i64_in _ (by omega)
  obtain ⟨t1, ht1⟩ : ∃ t, t = tk s 1 1 := ⟨_, rfl⟩
  have l1 : t1 < 256 ^ 1 := by rw [ht1]; exact tk_lt s 1 (by omega)
  have HT1 := Lib.hid ht1
  have w1 : IntKind.i64.wrap (t1 : Int) = (t1 : Int) := IntWalk.i64_in _ (by omega)
  obtain ⟨t2, ht2⟩ : ∃ t, t = tk s 2 1 := ⟨_, rfl⟩
  have l2 : t2 < 256 ^ 1 := by rw [ht2]; exact tk_lt s 2 (by omega)
  have HT2 := Lib.hid ht2
  have w2 : IntKind.i64.wrap (t2 : Int) = (t2 : Int) := IntWalk.i64_in _ (by omega)
  obtain ⟨t3, ht3⟩ : ∃ t, t = tk s 3 4 := ⟨_, rfl⟩
  have l3 : t3 < 256 ^ 4 := by rw [ht3]; exact tk_lt s 3 (by omega)
  have HT3 := Lib.hid ht3
  have w3 : IntKind.u32.wrap (t3 : Int) = (t3 : Int) := IntWalk.u32_in _ (by omega)
  obtain ⟨t4, ht4⟩ : ∃ t, t = tk s 7 1 := ⟨_, rfl⟩
  have l4 : t4 < 256 ^ 1 := by rw [ht4]; exact tk_lt s 7 (by omega)
  have HT4 := Lib.hid ht4
  have w4 : IntKind.i64.wrap (t4 : Int) = (t4 : Int) := IntWalk.i64_in _ (by omega)
  obtain ⟨t5, ht5⟩ : ∃ t, t = tk s 8 4 := ⟨_, rfl⟩
  have l5 : t5 < 256 ^ 4 := by rw [ht5]; exact tk_lt s 8 (by omega)
  have HT5 := Lib.hid ht5
  have w5 : IntKind.u32.wrap (t5 : Int) = (t5 : Int) := IntWalk.u32_in _ (by omega)
  obtain ⟨t6, ht6⟩ : ∃ t, t = tk s 12 4 := ⟨_, rfl⟩
  have l6 : t6 < 256 ^ 4 := by rw [ht6]; exact tk_lt s 12 (by omega)
  have HT6 := Lib.hid ht6
  have w6 : IntKind.u32.wrap (t6 : Int) = (t6 : Int) := IntWalk.u32_in _ (by omega)
  have HE := Lib.hid (show ((s.size : Int) == 16) = decide (s.data.toList.length = 16) from by
    rw [size_len, Bool.eq_iff_iff, beq_iff_eq, decide_eq_true_eq]; omega)
  have er := enter_take1
  have HTK := Lib.hid (take1_any W s g W.heap.size)
  have HTA := Lib.hid (taker_any s W)
  have HBX := Lib.hid hb
  have HLO := Lib.hid hlo
  have HS := Lib.hid hs
  have hss : s.size ≤ 1000 := hs
  clear hb hlo hs ht0 ht1 ht2 ht3 ht4 ht5 ht6
  go_enter Tryz.func68, Tryz.ntmps68
  go_wp2_with fail
  refine HTA.out.mono ?_
  rintro e V0 ⟨rfl, h1, h2, hb⟩
  have R0 := Lib.hid (show RdM W s g W.heap.size 0 m V0 from ⟨HBX.out.later hb, h1, h2, grown_below hb, HLO.out, Nat.le_refl _⟩)
  clear h1 h2 hb
  go_wp2_with fail
  refine (HTK.out 0 1 _ _ R0.out (by omega) (by omega) HS.out).mono ?_
  rintro e V1 ⟨rfl, h⟩
  have R1 := Lib.hid h
  clear h
  simp only [Nat.zero_add, Nat.reduceAdd] at *
  rw [← HT0.out]
  go_wp2_with fail
  refine (HTK.out 1 1 _ _ R1.out (by omega) (by omega) HS.out).mono ?_
  rintro e V2 ⟨rfl, h⟩
  have R2 := Lib.hid h
  clear h
  simp only [Nat.zero_add, Nat.reduceAdd] at *
  rw [← HT1.out]
  have x21 : V2.cell? ⟨g, 21, none⟩ = some (.int .i64 m.dst) := R2.out.box.cell rfl
  have f21 : V2.frozen? ⟨g, 21, none⟩ = false := R2.out.box.frz 21
  have x22 : V2.cell? ⟨g, 22, none⟩ = some (.int .i64 m.hops) := R2.out.box.cell rfl
  have f22 : V2.frozen? ⟨g, 22, none⟩ = false := R2.out.box.frz 22
  have RA := Lib.hid (show RdM W s g W.heap.size 2 { m with dst := (t0 : Int), hops := (t1 : Int) } ((V2.setCell ⟨g, 21, none⟩ (.int .i64 (t0 : Int))).setCell ⟨g, 22, none⟩ (.int .i64 (t1 : Int))) from (R2.out.set (n := { m with dst := (t0 : Int) }) rfl).set rfl)
  go_wp2_with fail
  clear x21 x22 f21 f22
  refine (HTK.out 2 1 _ _ RA.out (by omega) (by omega) HS.out).mono ?_
  rintro e V3 ⟨rfl, h⟩
  have R3 := Lib.hid h
  clear h
  simp only [Nat.zero_add, Nat.reduceAdd] at *
  rw [← HT2.out]
  go_wp2_with fail
  refine (HTK.out 3 4 _ _ R3.out (by omega) (by omega) HS.out).mono ?_
  rintro e V4 ⟨rfl, h⟩
  have R4 := Lib.hid h
  clear h
  simp only [Nat.zero_add, Nat.reduceAdd] at *
  rw [← HT3.out]
  go_wp2_with fail
  refine (HTK.out 7 1 _ _ R4.out (by omega) (by omega) HS.out).mono ?_
  rintro e V5 ⟨rfl, h⟩
  have R5 := Lib.hid h
  clear h
  simp only [Nat.zero_add, Nat.reduceAdd] at *
  rw [← HT4.out]
  go_wp2_with fail
  refine (HTK.out 8 4 _ _ R5.out (by omega) (by omega) HS.out).mono ?_
  rintro e V6 ⟨rfl, h⟩
  have R6 := Lib.hid h
  clear h
  simp only [Nat.zero_add, Nat.reduceAdd] at *
  rw [← HT5.out]
  go_wp2_with fail
  refine (HTK.out 12 4 _ _ R6.out (by omega) (by omega) HS.out).mono ?_
  rintro e V7 ⟨rfl, h⟩
  have R7 := Lib.hid h
  clear h
  simp only [Nat.zero_add, Nat.reduceAdd] at *
  rw [← HT6.out]
  have x27 : V7.cell? ⟨g, 27, none⟩ = some (.int .i64 m.ak.frm) := R7.out.box.cell rfl
  have f27 : V7.frozen? ⟨g, 27, none⟩ = false := R7.out.box.frz 27
  have x28 : V7.cell? ⟨g, 28, none⟩ = some (.int .u32 m.ak.ep) := R7.out.box.cell rfl
  have f28 : V7.frozen? ⟨g, 28, none⟩ = false := R7.out.box.frz 28
  have x29 : V7.cell? ⟨g, 29, none⟩ = some (.int .i64 m.ak.dst) := R7.out.box.cell rfl
  have f29 : V7.frozen? ⟨g, 29, none⟩ = false := R7.out.box.frz 29
  have x30 : V7.cell? ⟨g, 30, none⟩ = some (.int .u32 m.ak.lif) := R7.out.box.cell rfl
  have f30 : V7.frozen? ⟨g, 30, none⟩ = false := R7.out.box.frz 30
  have x31 : V7.cell? ⟨g, 31, none⟩ = some (.int .u32 m.ak.ver) := R7.out.box.cell rfl
  have f31 : V7.frozen? ⟨g, 31, none⟩ = false := R7.out.box.frz 31
  have RZ := Lib.hid (show RdM W s g W.heap.size 16 { m with dst := (t0 : Int), hops := (t1 : Int), ak := ⟨(t2 : Int), t3, (t4 : Int), t5, t6⟩ } (((((V7.setCell ⟨g, 27, none⟩ (.int .i64 (t2 : Int))).setCell ⟨g, 28, none⟩ (.int .u32 (t3 : Int))).setCell ⟨g, 29, none⟩ (.int .i64 (t4 : Int))).setCell ⟨g, 30, none⟩ (.int .u32 (t5 : Int))).setCell ⟨g, 31, none⟩ (.int .u32 (t6 : Int))) from (RdM.set (n := { m with dst := (t0 : Int), hops := (t1 : Int), ak := ⟨(t2 : Int), t3, (t4 : Int), t5, t6⟩ }) (RdM.set (n := { m with dst := (t0 : Int), hops := (t1 : Int), ak := ⟨(t2 : Int), t3, (t4 : Int), t5, m.ak.ver⟩ }) (RdM.set (n := { m with dst := (t0 : Int), hops := (t1 : Int), ak := ⟨(t2 : Int), t3, (t4 : Int), m.ak.lif, m.ak.ver⟩ }) (RdM.set (n := { m with dst := (t0 : Int), hops := (t1 : Int), ak := ⟨(t2 : Int), t3, m.ak.dst, m.ak.lif, m.ak.ver⟩ }) (RdM.set (n := { m with dst := (t0 : Int), hops := (t1 : Int), ak := ⟨(t2 : Int), m.ak.ep, m.ak.dst, m.ak.lif, m.ak.ver⟩ }) R7.out rfl) rfl) rfl) rfl) rfl))
  go_wp2_with fail
  go_returns
  rw [← HT0.out, ← HT1.out, ← HT2.out, ← HT3.out, ← HT4.out, ← HT5.out, ← HT6.out]
  exact ⟨by rw [← HE.out]; rfl, RZ.out.box, RZ.out.gr⟩

end Go.Proofs.YtickjmkkgcfkhaaGreat
