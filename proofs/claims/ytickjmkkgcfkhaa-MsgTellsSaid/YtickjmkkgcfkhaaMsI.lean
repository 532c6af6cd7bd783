/- Contracts of the message: the parts of bytes. (Printed by mkmsi.py.) -/
import Derived.Test.YtickjmkkgcfkhaaMsB
import Derived.Test.YtickjmkkgcfkhaaMsP
import Derived.Test.YtickjmkkgcfkhaaRecL
import Derived.Test.YtickjmkkgcfkhaaHdK
set_option linter.unusedSimpArgs false
set_option linter.unusedVariables false
set_option maxRecDepth 100000
set_option maxRecDepth 100000
namespace Go.Proofs.Ytickjmkkgcfkhaa
open Go.RowKit Go.ChangeShapes Go.WideShapes

theorem grown_set {W V : World} {g i : Nat} {v : Value} (h : W.grownBy V (some g)) : W.grownBy (V.setCell ⟨g, i, none⟩ v) (some g) :=
  ⟨h.os, h.tape, h.output, by have := h.size; simpa using this, fun k hk hne => (heap_setCell_other V ⟨g, i, none⟩ k v (fun e => hne (by rw [e]))).trans (h.block k hk hne)⟩
theorem grown_new {W V : World} {g p i : Nat} {v : Value} (h : W.grownBy V (some g)) (hp : W.heap.size ≤ p) : W.grownBy (V.setCell ⟨p, i, none⟩ v) (some g) :=
  ⟨h.os, h.tape, h.output, by have := h.size; simpa using this, fun k hk hne => (heap_setCell_other V ⟨p, i, none⟩ k v (fun e => by simp only at e; omega)).trans (h.block k hk hne)⟩
theorem grown_below {W V : World} {g : Nat} (h : Below W.heap.size W V) : W.grownBy V (some g) := ⟨h.os, h.tape, h.output, h.size, fun k hk _ => h.block k hk⟩
theorem BoxM.set {b i : Nat} {m n : Ms} {sa ta : Option Addr} {sc tc : Nat} {v : Value} {V : World} (h : BoxM b m sa sc V) (he : (m.cs sa sc).setIfInBounds i v = n.cs ta tc) : BoxM b n ta tc (V.setCell ⟨b, i, none⟩ v) := by
  have := heap_setCell_same V b i _ _ v h
  rw [he] at this
  exact this
theorem BoxM.frz {b : Nat} {m : Ms} {sa : Option Addr} {sc : Nat} {V : World} (h : BoxM b m sa sc V) (i : Nat) : V.frozen? ⟨b, i, none⟩ = false := frozen_of_row _ _ i _ _ h

set_option maxHeartbeats 3200000 in
theorem read1_any (s : ByteArray) (g : Nat) (m : Ms) (W : World) (hs : s.size ≤ 1000) (hb : BoxM g m none 0 W) : Calls Try.prog 57 #[.string s, .pointer (some ⟨g, 0, none⟩)] W fun e W' => e = .returned (.bool (decide (decE s.data.toList = 0))) ∧ (∃ sa sc, BoxM g { m with rc := decR s.data.toList } sa sc W' ∧ ARow W' W.heap.size sa sc (decR s.data.toList).adjs) ∧ W.grownBy W' (some g) := by
  have HC := Lib.hid (decode_any s W (by omega))
  have HBX := Lib.hid hb
  obtain ⟨e0, he0⟩ : ∃ e, e = decE s.data.toList := ⟨_, rfl⟩
  obtain ⟨r, hr⟩ : ∃ r, r = decR s.data.toList := ⟨_, rfl⟩
  rw [← he0, ← hr] at HC
  have HE0 := Lib.hid he0
  have HRR := Lib.hid hr
  clear hb he0 hr hs
  go_enter Try.func57, Try.ntmps57
  go_wp2_with fail
  refine HC.out.mono ?_
  rintro e V ⟨sa, sc, rfl, hrow, hb⟩
  have HROW := Lib.hid hrow
  unfold Rc.ag Rc.cs
  have HG := Lib.hid (grown_below (g := g) hb)
  have HBV := Lib.hid (HBX.out.later hb)
  have x1 : V.cell? ⟨g, 1, none⟩ = some (.int .i64 m.rc.org) := HBV.out.cell rfl
  have f1 : V.frozen? ⟨g, 1, none⟩ = false := HBV.out.frz 1
  have x2 : V.cell? ⟨g, 2, none⟩ = some (.int .u32 m.rc.ep) := HBV.out.cell rfl
  have f2 : V.frozen? ⟨g, 2, none⟩ = false := HBV.out.frz 2
  have x3 : V.cell? ⟨g, 3, none⟩ = some (.int .u32 m.rc.sq) := HBV.out.cell rfl
  have f3 : V.frozen? ⟨g, 3, none⟩ = false := HBV.out.frz 3
  have x4 : V.cell? ⟨g, 4, none⟩ = some (.int .i64 m.rc.clm) := HBV.out.cell rfl
  have f4 : V.frozen? ⟨g, 4, none⟩ = false := HBV.out.frz 4
  have x5 : V.cell? ⟨g, 5, none⟩ = some (.bool m.rc.ing) := HBV.out.cell rfl
  have f5 : V.frozen? ⟨g, 5, none⟩ = false := HBV.out.frz 5
  have x6 : V.cell? ⟨g, 6, none⟩ = some (.slice none m.rc.adjs.length 0) := HBV.out.cell rfl
  have f6 : V.frozen? ⟨g, 6, none⟩ = false := HBV.out.frz 6
  clear hb hrow
  have HN := Lib.hid (show BoxM g { m with rc := r } sa sc ((((((V.setCell ⟨g, 1, none⟩ (.int .i64 r.org)).setCell ⟨g, 2, none⟩ (.int .u32 r.ep)).setCell ⟨g, 3, none⟩ (.int .u32 r.sq)).setCell ⟨g, 4, none⟩ (.int .i64 r.clm)).setCell ⟨g, 5, none⟩ (.bool r.ing)).setCell ⟨g, 6, none⟩ (.slice sa r.adjs.length sc)) ∧ W.grownBy ((((((V.setCell ⟨g, 1, none⟩ (.int .i64 r.org)).setCell ⟨g, 2, none⟩ (.int .u32 r.ep)).setCell ⟨g, 3, none⟩ (.int .u32 r.sq)).setCell ⟨g, 4, none⟩ (.int .i64 r.clm)).setCell ⟨g, 5, none⟩ (.bool r.ing)).setCell ⟨g, 6, none⟩ (.slice sa r.adjs.length sc)) (some g) from by
    refine ⟨?_, grown_set (grown_set (grown_set (grown_set (grown_set (grown_set (HG.out))))))⟩
    have h := (heap_setCell_same _ g 6 _ _ (.slice sa r.adjs.length sc) (heap_setCell_same _ g 5 _ _ (.bool r.ing) (heap_setCell_same _ g 4 _ _ (.int .i64 r.clm) (heap_setCell_same _ g 3 _ _ (.int .u32 r.sq) (heap_setCell_same _ g 2 _ _ (.int .u32 r.ep) (heap_setCell_same _ g 1 _ _ (.int .i64 r.org) HBV.out))))))
    unfold Ms.cs at h
    simp only [List.setIfInBounds_toArray, List.set_cons_succ, List.set_cons_zero] at h
    unfold BoxM Ms.cs
    exact h)
  go_wp2_with fail
  go_returns
  refine ⟨by rw [← HE0.out]; rfl, ⟨sa, sc, by rw [← HRR.out]; exact HN.out.1, ?_⟩, HN.out.2⟩
  rw [← HRR.out]
  exact HROW.out.same fun k hk => by
    have h1 := (HROW.out.lt k hk).1
    have h2 := (Array.getElem?_eq_some_iff.1 HBX.out).1
    have hne : k ≠ g := by omega
    iterate 6 rw [heap_setCell_other _ _ _ _ hne]
set_option maxHeartbeats 3200000 in
theorem read2_any (s : ByteArray) (g : Nat) (m : Ms) (W : World) (hs : s.size ≤ 1000) (hb : BoxM g m none 0 W) : Calls Try.prog 62 #[.string s, .pointer (some ⟨g, 0, none⟩)] W fun e W' => e = .returned (.bool (decide (decSE s.data.toList = 0))) ∧ BoxM g { m with st := decS s.data.toList } none 0 W' ∧ W.grownBy W' (some g) := by
  have HC := Lib.hid (decst_any s W (by omega))
  have HBX := Lib.hid hb
  obtain ⟨e0, he0⟩ : ∃ e, e = decSE s.data.toList := ⟨_, rfl⟩
  obtain ⟨r, hr⟩ : ∃ r, r = decS s.data.toList := ⟨_, rfl⟩
  rw [← he0, ← hr] at HC
  have HE0 := Lib.hid he0
  have HRR := Lib.hid hr
  clear hb he0 hr hs
  go_enter Try.func62, Try.ntmps62
  go_wp2_with fail
  refine HC.out.mono ?_
  rintro e V ⟨rfl, hb⟩
  unfold St.ag St.cs
  have HG := Lib.hid (grown_below (g := g) hb)
  have HBV := Lib.hid (HBX.out.later hb)
  have x7 : V.cell? ⟨g, 7, none⟩ = some (.int .i64 m.st.org) := HBV.out.cell rfl
  have f7 : V.frozen? ⟨g, 7, none⟩ = false := HBV.out.frz 7
  have x8 : V.cell? ⟨g, 8, none⟩ = some (.int .u32 m.st.ep) := HBV.out.cell rfl
  have f8 : V.frozen? ⟨g, 8, none⟩ = false := HBV.out.frz 8
  have x9 : V.cell? ⟨g, 9, none⟩ = some (.int .u32 m.st.sq) := HBV.out.cell rfl
  have f9 : V.frozen? ⟨g, 9, none⟩ = false := HBV.out.frz 9
  clear hb
  have HN := Lib.hid (show BoxM g { m with st := r } none 0 (((V.setCell ⟨g, 7, none⟩ (.int .i64 r.org)).setCell ⟨g, 8, none⟩ (.int .u32 r.ep)).setCell ⟨g, 9, none⟩ (.int .u32 r.sq)) ∧ W.grownBy (((V.setCell ⟨g, 7, none⟩ (.int .i64 r.org)).setCell ⟨g, 8, none⟩ (.int .u32 r.ep)).setCell ⟨g, 9, none⟩ (.int .u32 r.sq)) (some g) from by
    refine ⟨?_, grown_set (grown_set (grown_set (HG.out)))⟩
    have h := (heap_setCell_same _ g 9 _ _ (.int .u32 r.sq) (heap_setCell_same _ g 8 _ _ (.int .u32 r.ep) (heap_setCell_same _ g 7 _ _ (.int .i64 r.org) HBV.out)))
    unfold Ms.cs at h
    simp only [List.setIfInBounds_toArray, List.set_cons_succ, List.set_cons_zero] at h
    unfold BoxM Ms.cs
    exact h)
  go_wp2_with fail
  go_returns
  exact ⟨by rw [← HE0.out]; rfl, by rw [← HRR.out]; exact HN.out.1, HN.out.2⟩
set_option maxHeartbeats 3200000 in
theorem read3_any (s : ByteArray) (g : Nat) (m : Ms) (W : World) (hs : s.size ≤ 1000) (hb : BoxM g m none 0 W) : Calls Try.prog 68 #[.string s, .pointer (some ⟨g, 0, none⟩)] W fun e W' => e = .returned (.bool (decide (decHE s = 0))) ∧ BoxM g { m with hd := decH s } none 0 W' ∧ W.grownBy W' (some g) := by
  have HC := Lib.hid (hdecode_any s W (by omega))
  have HBX := Lib.hid hb
  obtain ⟨e0, he0⟩ : ∃ e, e = decHE s := ⟨_, rfl⟩
  obtain ⟨r, hr⟩ : ∃ r, r = decH s := ⟨_, rfl⟩
  rw [← he0, ← hr] at HC
  have HE0 := Lib.hid he0
  have HRR := Lib.hid hr
  clear hb he0 hr hs
  go_enter Try.func68, Try.ntmps68
  go_wp2_with fail
  refine HC.out.mono ?_
  rintro e V ⟨rfl, hb⟩
  unfold Hd.ag Hd.cs
  have HG := Lib.hid (grown_below (g := g) hb)
  have HBV := Lib.hid (HBX.out.later hb)
  have x10 : V.cell? ⟨g, 10, none⟩ = some (.int .i64 m.hd.wid) := HBV.out.cell rfl
  have f10 : V.frozen? ⟨g, 10, none⟩ = false := HBV.out.frz 10
  have x11 : V.cell? ⟨g, 11, none⟩ = some (.int .i64 m.hd.set) := HBV.out.cell rfl
  have f11 : V.frozen? ⟨g, 11, none⟩ = false := HBV.out.frz 11
  have x12 : V.cell? ⟨g, 12, none⟩ = some (.int .u32 m.hd.ent) := HBV.out.cell rfl
  have f12 : V.frozen? ⟨g, 12, none⟩ = false := HBV.out.frz 12
  have x13 : V.cell? ⟨g, 13, none⟩ = some (.int .i64 m.hd.hops) := HBV.out.cell rfl
  have f13 : V.frozen? ⟨g, 13, none⟩ = false := HBV.out.frz 13
  have x14 : V.cell? ⟨g, 14, none⟩ = some (.int .i64 m.hd.src) := HBV.out.cell rfl
  have f14 : V.frozen? ⟨g, 14, none⟩ = false := HBV.out.frz 14
  have x15 : V.cell? ⟨g, 15, none⟩ = some (.int .i64 m.hd.grp) := HBV.out.cell rfl
  have f15 : V.frozen? ⟨g, 15, none⟩ = false := HBV.out.frz 15
  have x16 : V.cell? ⟨g, 16, none⟩ = some (.int .u32 m.hd.id) := HBV.out.cell rfl
  have f16 : V.frozen? ⟨g, 16, none⟩ = false := HBV.out.frz 16
  have x17 : V.cell? ⟨g, 17, none⟩ = some (.int .u64 m.hd.bits.a) := HBV.out.cell rfl
  have f17 : V.frozen? ⟨g, 17, none⟩ = false := HBV.out.frz 17
  have x18 : V.cell? ⟨g, 18, none⟩ = some (.int .u64 m.hd.bits.b) := HBV.out.cell rfl
  have f18 : V.frozen? ⟨g, 18, none⟩ = false := HBV.out.frz 18
  have x19 : V.cell? ⟨g, 19, none⟩ = some (.int .u64 m.hd.bits.c) := HBV.out.cell rfl
  have f19 : V.frozen? ⟨g, 19, none⟩ = false := HBV.out.frz 19
  have x20 : V.cell? ⟨g, 20, none⟩ = some (.int .u64 m.hd.bits.d) := HBV.out.cell rfl
  have f20 : V.frozen? ⟨g, 20, none⟩ = false := HBV.out.frz 20
  clear hb
  have HN := Lib.hid (show BoxM g { m with hd := r } none 0 (((((((((((V.setCell ⟨g, 10, none⟩ (.int .i64 r.wid)).setCell ⟨g, 11, none⟩ (.int .i64 r.set)).setCell ⟨g, 12, none⟩ (.int .u32 r.ent)).setCell ⟨g, 13, none⟩ (.int .i64 r.hops)).setCell ⟨g, 14, none⟩ (.int .i64 r.src)).setCell ⟨g, 15, none⟩ (.int .i64 r.grp)).setCell ⟨g, 16, none⟩ (.int .u32 r.id)).setCell ⟨g, 17, none⟩ (.int .u64 r.bits.a)).setCell ⟨g, 18, none⟩ (.int .u64 r.bits.b)).setCell ⟨g, 19, none⟩ (.int .u64 r.bits.c)).setCell ⟨g, 20, none⟩ (.int .u64 r.bits.d)) ∧ W.grownBy (((((((((((V.setCell ⟨g, 10, none⟩ (.int .i64 r.wid)).setCell ⟨g, 11, none⟩ (.int .i64 r.set)).setCell ⟨g, 12, none⟩ (.int .u32 r.ent)).setCell ⟨g, 13, none⟩ (.int .i64 r.hops)).setCell ⟨g, 14, none⟩ (.int .i64 r.src)).setCell ⟨g, 15, none⟩ (.int .i64 r.grp)).setCell ⟨g, 16, none⟩ (.int .u32 r.id)).setCell ⟨g, 17, none⟩ (.int .u64 r.bits.a)).setCell ⟨g, 18, none⟩ (.int .u64 r.bits.b)).setCell ⟨g, 19, none⟩ (.int .u64 r.bits.c)).setCell ⟨g, 20, none⟩ (.int .u64 r.bits.d)) (some g) from by
    refine ⟨?_, grown_set (grown_set (grown_set (grown_set (grown_set (grown_set (grown_set (grown_set (grown_set (grown_set (grown_set (HG.out)))))))))))⟩
    have h := (heap_setCell_same _ g 20 _ _ (.int .u64 r.bits.d) (heap_setCell_same _ g 19 _ _ (.int .u64 r.bits.c) (heap_setCell_same _ g 18 _ _ (.int .u64 r.bits.b) (heap_setCell_same _ g 17 _ _ (.int .u64 r.bits.a) (heap_setCell_same _ g 16 _ _ (.int .u32 r.id) (heap_setCell_same _ g 15 _ _ (.int .i64 r.grp) (heap_setCell_same _ g 14 _ _ (.int .i64 r.src) (heap_setCell_same _ g 13 _ _ (.int .i64 r.hops) (heap_setCell_same _ g 12 _ _ (.int .u32 r.ent) (heap_setCell_same _ g 11 _ _ (.int .i64 r.set) (heap_setCell_same _ g 10 _ _ (.int .i64 r.wid) HBV.out)))))))))))
    unfold Ms.cs at h
    simp only [List.setIfInBounds_toArray, List.set_cons_succ, List.set_cons_zero] at h
    unfold BoxM Ms.cs
    exact h)
  go_wp2_with fail
  go_returns
  exact ⟨by rw [← HE0.out]; rfl, by rw [← HRR.out]; exact HN.out.1, HN.out.2⟩

end Go.Proofs.Ytickjmkkgcfkhaa
