/- The walk of the law HeaderBack. -/
import Derived.Test.YtbcgfojdlehnpaaHdO
import Derived.Test.YtbcgfojdlehnpaaHdW
import Derived.Test.YtbcgfojdlehnpaaHdOpen
set_option linter.unusedSimpArgs false
set_option linter.unusedVariables false
namespace Go.Proofs.Ytbcgfojdlehnpaa
open Go.RowKit Go.ChangeShapes Go.WideShapes

theorem enc_head {h : Hd} (hc : h.chk = true) : 1 ≤ h.enc.data.toList.length := by
  rw [Hd.enc, sealB_list]; simp
theorem more_head {E s : ByteArray} (h1 : 1 ≤ E.data.toList.length) (l : List UInt8) (h : s.data.toList = E.data.toList ++ l) : seg s.data.toList 0 1 = seg E.data.toList 0 1 := by
  rw [h]; exact seg_append (by omega)
theorem less_head {E : ByteArray} {m : Nat} (hm : 1 ≤ m) : seg (E.extract 0 m).data.toList 0 1 = seg E.data.toList 0 1 := by
  unfold seg
  rw [data_front, List.drop_zero, List.drop_zero, List.take_take, Nat.min_eq_left hm]
/-- What the laws' right leaves in the header's variable. -/
def GC (F : FuncId) (xs : Array Value) (Q : Value) : Prop := ∀ W, Calls Try.prog F xs W fun e W' => e = .returned Q ∧ Below W.heap.size W W'
structure BkS (W : World) (g : Hd) (V : World) : Prop where
  h : BoxV W.heap.size g.wid g.set g.ent g.hops g.src g.grp g.id g.bits.a g.bits.b g.bits.c g.bits.d V
  bel : Below W.heap.size W V
theorem BkS.later {W V X : World} {g : Hd} (h : BkS W g V) (hb : Below V.heap.size V X) : BkS W g X := ⟨h.h.later hb, h.bel.trans (hb.mono h.bel.size)⟩
structure BkT (W : World) (g : Hd) (p : Nat) (V : World) : Prop where
  b : BkS W g V
  h : BoxV p g.wid g.set g.ent g.hops g.src g.grp g.id g.bits.a g.bits.b g.bits.c g.bits.d V
theorem BkT.later {W V X : World} {g : Hd} {p : Nat} (h : BkT W g p V) (hb : Below V.heap.size V X) : BkT W g p X := ⟨h.b.later hb, h.h.later hb⟩

set_option maxRecDepth 100000 in
set_option maxHeartbeats 12800000 in
theorem headerBack_walk (h : Hd) (W : World) (hk : h.ok) : Calls Try.prog 4 #[h.ag] W fun e W' => e = .returned (.bool true) ∧ Below W.heap.size W W' := by
  obtain ⟨W1, hW1⟩ : ∃ W1, W1 = W.alloc (.cells h.cs 27) := ⟨_, rfl⟩
  have hb1 : Below W.heap.size W W1 := by rw [hW1]; exact (Below.refl _ _).alloc (Nat.le_refl _) _
  have hbh : BoxV W.heap.size h.wid h.set h.ent h.hops h.src h.grp h.id h.bits.a h.bits.b h.bits.c h.bits.d W1 := by rw [hW1]; exact heap_alloc_new _ _
  have HBH := Lib.hid hbh
  obtain ⟨y0, y1, y2, y3, y4, y5, y6, y7, y8, y9, y10⟩ := hbh.cells
  have HR := Lib.hid (right_any h W1 hk)
  have HB1 := Lib.hid hb1
  unfold Hd.cs at hW1
  rw [hW1] at y0 y1 y2 y3 y4 y5 y6 y7 y8 y9 y10
  have HW1 := Lib.hid hW1
  clear hW1 hb1 hbh hk
  go_enter Try.func4, Try.ntmps4
  unfold Hd.ag Hd.cs at *
  go_wp2_with fail
  rw [← HW1.out]
  clear y0 y1 y2 y3 y4 y5 y6 y7 y8 y9 y10
  refine HR.out.mono ?_
  rintro e V1 ⟨g, hgo, hgc, rfl, hb⟩
  have hbh1 := HBH.out.later hb
  have hbl1 := HB1.out.trans (hb.mono HB1.out.size)
  obtain ⟨y0, y1, y2, y3, y4, y5, y6, y7, y8, y9, y10⟩ := hbh1.cells
  obtain ⟨f0, f1, f2, f3, f4, f5, f6, f7, f8, f9, f10⟩ := hbh1.frozen
  obtain ⟨V2, hV2⟩ : ∃ V, V = (((((((((((V1.setCell ⟨W.heap.size, 0, none⟩ (.int .i64 g.wid)).setCell ⟨W.heap.size, 1, none⟩ (.int .i64 g.set)).setCell ⟨W.heap.size, 2, none⟩ (.int .u32 (g.ent : Int))).setCell ⟨W.heap.size, 3, none⟩ (.int .i64 g.hops)).setCell ⟨W.heap.size, 4, none⟩ (.int .i64 g.src)).setCell ⟨W.heap.size, 5, none⟩ (.int .i64 g.grp)).setCell ⟨W.heap.size, 6, none⟩ (.int .u32 (g.id : Int))).setCell ⟨W.heap.size, 7, none⟩ (.int .u64 (g.bits.a : Int))).setCell ⟨W.heap.size, 8, none⟩ (.int .u64 (g.bits.b : Int))).setCell ⟨W.heap.size, 9, none⟩ (.int .u64 (g.bits.c : Int))).setCell ⟨W.heap.size, 10, none⟩ (.int .u64 (g.bits.d : Int))) := ⟨_, rfl⟩
  have HS2 := Lib.hid (show BkS W g V2 from ⟨by rw [hV2]; exact (((((((((((hbh1.set0 _).set1 _).set2 _).set3 _).set4 _).set5 _).set6 _).set7 _).set8 _).set9 _).set10 _), by
    rw [hV2]
    repeat (with_reducible refine Below.setCell ?_ (by simp only; omega) _)
    exact hbl1⟩)
  have HEN := Lib.hid (show GC 13 #[.agg #[.int .i64 g.wid, .int .i64 g.set, .int .u32 g.ent, .int .i64 g.hops, .int .i64 g.src, .int .i64 g.grp, .int .u32 g.id, .int .u64 g.bits.a, .int .u64 g.bits.b, .int .u64 g.bits.c, .int .u64 g.bits.d]] (.tuple #[.string g.enc, .int .i64 0]) from fun V => hencode_yes g V hgo hgc)
  have HCK := Lib.hid (show GC 15 #[.agg #[.int .i64 g.wid, .int .i64 g.set, .int .u32 g.ent, .int .i64 g.hops, .int .i64 g.src, .int .i64 g.grp, .int .u32 g.id, .int .u64 g.bits.a, .int .u64 g.bits.b, .int .u64 g.bits.c, .int .u64 g.bits.d]] (.int .i64 0) from fun V => by
    have h1 := hcheck_any g V hgo
    rw [Hd.err, if_pos hgc] at h1
    exact h1)
  obtain ⟨M, hM⟩ : ∃ M, g.enc.size = M + 1 := ⟨g.enc.size - 1, by have := enc_head hgc; rw [size_eq] at this; omega⟩
  have hsz := Hd.enc_size hgc
  have hwd := (Hd.chk_is hgc).1
  have hM1 : 1 ≤ M ∧ M ≤ 1000 := by
    rw [sizeV, if_pos hwd] at hsz
    have := wide_cases hwd
    omega
  have HSI := Lib.hid (show ∀ V, Calls Try.prog 14 #[.int .i64 g.wid] V fun e V' => e = .returned (.tuple #[.int .i64 ((M : Int) + 1), .int .i64 0]) ∧ V = V' from fun V => by
    have h1 := size_any g.wid V hgo.1
    rw [← hsz, hM, sizeE, if_pos hwd] at h1
    exact h1)
  have HDE := Lib.hid (show GC 9 #[.string g.enc] (.tuple #[.agg #[.int .i64 g.wid, .int .i64 g.set, .int .u32 g.ent, .int .i64 g.hops, .int .i64 g.src, .int .i64 g.grp, .int .u32 g.id, .int .u64 g.bits.a, .int .u64 g.bits.b, .int .u64 g.bits.c, .int .u64 g.bits.d], .int .i64 0]) from fun V => by
    have h1 := hdecode_any g.enc V (by omega)
    rw [(decH_enc hgo hgc).1, (decH_enc hgo hgc).2] at h1
    exact h1)
  have HD1 := Lib.hid (show ∃ v, GC 9 #[.string (g.enc ++ ⟨#[0]⟩)] (.tuple #[v, .int .i64 4]) from ⟨_, fun V => by
    have hl : (g.enc ++ ⟨#[0]⟩ : ByteArray).data.toList = g.enc.data.toList ++ [0] := by rw [ByteArray.data_append, Array.toList_append]
    have hs1 : (g.enc ++ ⟨#[0]⟩ : ByteArray).size = M + 2 := by rw [← size_eq, hl, List.length_append, size_eq, hM]; rfl
    have h1 := hdecode_any (g.enc ++ ⟨#[0]⟩) V (by omega)
    rw [decH_other hgo hgc (s := g.enc ++ ⟨#[0]⟩) (by omega) (more_head (enc_head hgc) [0] hl)] at h1
    exact h1⟩)
  have HD2 := Lib.hid (show ∃ v, GC 9 #[.string (g.enc.extract 0 M)] (.tuple #[v, .int .i64 4]) from ⟨_, fun V => by
    have hs1 : (g.enc.extract 0 M).size = M := by rw [ByteArray.size_extract]; omega
    have h1 := hdecode_any (g.enc.extract 0 M) V (by omega)
    rw [decH_other hgo hgc (s := g.enc.extract 0 M) (by omega) (less_head hM1.1)] at h1
    exact h1⟩)
  have HEQ := Lib.hid (fun V => show (Op.equalIn 10000 27 (.agg #[.int .i64 g.wid, .int .i64 g.set, .int .u32 g.ent, .int .i64 g.hops, .int .i64 g.src, .int .i64 g.grp, .int .u32 g.id, .int .u64 g.bits.a, .int .u64 g.bits.b, .int .u64 g.bits.c, .int .u64 g.bits.d]) (.agg #[.int .i64 g.wid, .int .i64 g.set, .int .u32 g.ent, .int .i64 g.hops, .int .i64 g.src, .int .i64 g.grp, .int .u32 g.id, .int .u64 g.bits.a, .int .u64 g.bits.b, .int .u64 g.bits.c, .int .u64 g.bits.d])).run Try.prog V = .ok true V from by
    have h1 := eq_hd g g hgo hgo V
    rw [decide_eq_true rfl] at h1
    exact h1)
  obtain ⟨E, hE⟩ : ∃ E, E = g.enc := ⟨_, rfl⟩
  rw [← hE] at HEN HDE HD1 HD2 hM
  have HM := Lib.hid hM
  obtain ⟨z0, z1, z2, z3, z4, z5, z6, z7, z8, z9, z10⟩ := HS2.out.h.cells
  rw [hV2] at z0 z1 z2 z3 z4 z5 z6 z7 z8 z9 z10
  have HV2 := Lib.hid hV2
  clear hE hb hbh1 hbl1 hV2 hsz hwd hgo hgc hM
  go_wp2_with fail
  rw [← HV2.out]
  clear y0 y1 y2 y3 y4 y5 y6 y7 y8 y9 y10 f0 f1 f2 f3 f4 f5 f6 f7 f8 f9 f10 z0 z1 z2 z3 z4 z5 z6 z7 z8 z9 z10
  refine (HEN.out _).mono ?_
  rintro e V3 ⟨rfl, hb⟩
  have HS3 := Lib.hid (HS2.out.later hb)
  clear hb
  obtain ⟨y0, y1, y2, y3, y4, y5, y6, y7, y8, y9, y10⟩ := HS3.out.h.cells
  go_wp2_with fail
  refine (HSI.out _).mono ?_
  rintro e V ⟨rfl, rfl⟩
  go_wp2_with fail
  refine (HDE.out _).mono ?_
  rintro e V4 ⟨rfl, hb⟩
  have HS4 := Lib.hid (HS3.out.later hb)
  clear hb y0 y1 y2 y3 y4 y5 y6 y7 y8 y9 y10
  obtain ⟨p, hp⟩ : ∃ p, p = V4.heap.size := ⟨_, rfl⟩
  obtain ⟨V5, hV5⟩ : ∃ V, V = V4.alloc (.cells #[.int .i64 g.wid, .int .i64 g.set, .int .u32 g.ent, .int .i64 g.hops, .int .i64 g.src, .int .i64 g.grp, .int .u32 g.id, .int .u64 g.bits.a, .int .u64 g.bits.b, .int .u64 g.bits.c, .int .u64 g.bits.d] 27) := ⟨_, rfl⟩
  have hbV : Below V4.heap.size V4 V5 := by rw [hV5]; exact (Below.refl _ _).alloc (Nat.le_refl _) _
  have HS5 := Lib.hid (show BkT W g p V5 from ⟨HS4.out.later hbV, by rw [hV5, hp]; exact heap_alloc_new _ _⟩)
  obtain ⟨y0, y1, y2, y3, y4, y5, y6, y7, y8, y9, y10⟩ := HS5.out.b.h.cells
  rw [hV5] at y0 y1 y2 y3 y4 y5 y6 y7 y8 y9 y10
  have HV5 := Lib.hid hV5
  have HP := Lib.hid hp
  clear hbV hV5 hp
  go_wp2_with fail
  rw [← HV5.out, ← HP.out]
  clear y0 y1 y2 y3 y4 y5 y6 y7 y8 y9 y10
  refine (HCK.out _).mono ?_
  rintro e V6 ⟨rfl, hb⟩
  have HS6 := Lib.hid (HS5.out.later hb)
  clear hb
  obtain ⟨y0, y1, y2, y3, y4, y5, y6, y7, y8, y9, y10⟩ := HS6.out.b.h.cells
  obtain ⟨z0, z1, z2, z3, z4, z5, z6, z7, z8, z9, z10⟩ := HS6.out.h.cells
  have heq := HEQ.out
  have hsz : (E.size : Int) = (M : Int) + 1 := by rw [HM.out]; rfl
  have hszb : ((E.size : Int) != (M : Int) + 1) = false := by rw [hsz]; simp
  clear hsz
  have hcc : ¬ 9223372036854775807 < E.size + 1 := by have := HM.out; omega
  have hM2 : M ≤ E.size := by have := HM.out; omega
  have hM3 : (M : Int) ≤ (E.size : Int) := by have := HM.out; omega
  go_wp2_with fail
  clear y0 y1 y2 y3 y4 y5 y6 y7 y8 y9 y10 z0 z1 z2 z3 z4 z5 z6 z7 z8 z9 z10 heq hszb hcc
  obtain ⟨v1, hv1⟩ := HD1.out
  refine (hv1 _).mono ?_
  rintro e V7 ⟨rfl, hb⟩
  have HS7 := Lib.hid (HS6.out.later hb)
  clear hb hv1
  go_wp2_with fail
  obtain ⟨v2, hv2⟩ := HD2.out
  refine (hv2 _).mono ?_
  rintro e V8 ⟨rfl, hb⟩
  have HS8 := Lib.hid (HS7.out.later hb)
  clear hb hv2
  go_wp2_with fail
  refine (works_any _).mono ?_
  rintro e V9 ⟨rfl, hb⟩
  have HS9 := Lib.hid (HS8.out.later hb)
  clear hb
  go_wp2_with fail
  go_returns
  exact ⟨rfl, HS9.out.b.bel⟩

end Go.Proofs.Ytbcgfojdlehnpaa
