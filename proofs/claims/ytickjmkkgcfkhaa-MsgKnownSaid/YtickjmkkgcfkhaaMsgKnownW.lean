/- The walk of the law MsgKnown. (Printed by mkmsknown.py.) -/
import Derived.Test.YtickjmkkgcfkhaaMsY
set_option linter.unusedSimpArgs false
set_option linter.unusedVariables false
set_option maxRecDepth 100000
namespace Go.Proofs.Ytickjmkkgcfkhaa
open Go.RowKit Go.ChangeShapes Go.WideShapes

theorem wpList_eq {P : Program} {w w' : World} {ops : Array Oper} {rest : List Oper} {o : Oper} {a : Act} {Q : Exit → Act → World → Prop} {v : Value} (hgd : o.guard = none) (hr : (execOp a.eval o).run P w = .ok (.value v) w') (h : wpList P ops Q rest (a.put o.dst v) w') : wpList P ops Q (o :: rest) a w :=
  wpList_plain hgd fun _ hK => by
    unfold Oper.wp
    rw [hr]
    exact hK _ _ h
def initC : Array Value := #[.int .i64 4, .int .i64 0, .int .u32 0, .int .u32 0, .int .i64 0, .bool false, .slice none 0 0, .int .i64 0, .int .u32 0, .int .u32 0, .int .i64 0, .int .i64 0, .int .u32 0, .int .i64 0, .int .i64 0, .int .i64 0, .int .u32 0, .int .u64 0, .int .u64 0, .int .u64 0, .int .u64 0, .int .i64 7, .int .i64 15, .int .i64 2, .int .u32 1, .int .u32 3, .int .u8 129, .int .i64 0, .int .u32 0, .int .i64 0, .int .u32 0, .int .u32 0, .int .i64 4, .int .i64 0, .int .u32 0, .int .u32 0, .int .i64 0, .bool false, .slice none 0 0, .int .i64 0, .int .u32 0, .int .u32 0, .int .i64 0, .int .i64 0, .int .u32 0, .int .i64 0, .int .i64 0, .int .i64 0, .int .u32 0, .int .u64 0, .int .u64 0, .int .u64 0, .int .u64 0, .int .i64 7, .int .i64 15, .int .i64 2, .int .u32 1, .int .u32 3, .int .u8 129, .int .i64 0, .int .u32 0, .int .i64 0, .int .u32 0, .int .u32 0, .int .i64 4, .int .i64 0, .int .u32 0, .int .u32 0, .int .i64 0, .bool false, .slice none 0 0, .int .i64 0, .int .u32 0, .int .u32 0, .int .i64 0, .int .i64 0, .int .u32 0, .int .i64 0, .int .i64 0, .int .i64 0, .int .u32 0, .int .u64 0, .int .u64 0, .int .u64 0, .int .u64 0, .int .i64 7, .int .i64 15, .int .i64 2, .int .u32 1, .int .u32 3, .int .u8 129, .int .i64 0, .int .u32 0, .int .i64 0, .int .u32 0, .int .u32 0, .int .i64 4, .int .i64 0, .int .u32 0, .int .u32 0, .int .i64 0, .bool false, .slice none 0 0, .int .i64 0, .int .u32 0, .int .u32 0, .int .i64 0, .int .i64 0, .int .u32 0, .int .i64 0, .int .i64 0, .int .i64 0, .int .u32 0, .int .u64 0, .int .u64 0, .int .u64 0, .int .u64 0, .int .i64 7, .int .i64 15, .int .i64 2, .int .u32 1, .int .u32 3, .int .u8 129, .int .i64 0, .int .u32 0, .int .i64 0, .int .u32 0, .int .u32 0, .int .i64 4, .int .i64 0, .int .u32 0, .int .u32 0, .int .i64 0, .bool false, .slice none 0 0, .int .i64 0, .int .u32 0, .int .u32 0, .int .i64 0, .int .i64 0, .int .u32 0, .int .i64 0, .int .i64 0, .int .i64 0, .int .u32 0, .int .u64 0, .int .u64 0, .int .u64 0, .int .u64 0, .int .i64 7, .int .i64 15, .int .i64 2, .int .u32 1, .int .u32 3, .int .u8 129, .int .i64 0, .int .u32 0, .int .i64 0, .int .u32 0, .int .u32 0, .int .i64 4, .int .i64 0, .int .u32 0, .int .u32 0, .int .i64 0, .bool false, .slice none 0 0, .int .i64 0, .int .u32 0, .int .u32 0, .int .i64 0, .int .i64 0, .int .u32 0, .int .i64 0, .int .i64 0, .int .i64 0, .int .u32 0, .int .u64 0, .int .u64 0, .int .u64 0, .int .u64 0, .int .i64 7, .int .i64 15, .int .i64 2, .int .u32 1, .int .u32 3, .int .u8 129, .int .i64 0, .int .u32 0, .int .i64 0, .int .u32 0, .int .u32 0, .int .i64 0, .int .i64 0, .int .u32 0, .int .u32 0, .int .i64 0, .bool false, .slice none 0 0, .int .i64 0, .int .u32 0, .int .u32 0, .int .i64 0, .int .i64 0, .int .u32 0, .int .i64 0, .int .i64 0, .int .i64 0, .int .u32 0, .int .u64 0, .int .u64 0, .int .u64 0, .int .u64 0, .int .i64 0, .int .i64 0, .int .i64 0, .int .u32 0, .int .u32 0, .int .u8 0, .int .i64 0, .int .u32 0, .int .i64 0, .int .u32 0, .int .u32 0]
def badC : Array Value := #[.int .i64 4, .int .i64 0, .int .u32 0, .int .u32 0, .int .i64 0, .bool false, .slice none 0 0, .int .i64 3, .int .u32 1, .int .u32 2, .int .i64 0, .int .i64 0, .int .u32 0, .int .i64 0, .int .i64 0, .int .i64 0, .int .u32 0, .int .u64 0, .int .u64 0, .int .u64 0, .int .u64 0, .int .i64 7, .int .i64 15, .int .i64 2, .int .u32 1, .int .u32 3, .int .u8 129, .int .i64 0, .int .u32 0, .int .i64 0, .int .u32 0, .int .u32 0, .int .i64 4, .int .i64 0, .int .u32 0, .int .u32 0, .int .i64 0, .bool false, .slice none 0 0, .int .i64 0, .int .u32 0, .int .u32 0, .int .i64 0, .int .i64 0, .int .u32 0, .int .i64 0, .int .i64 0, .int .i64 0, .int .u32 0, .int .u64 0, .int .u64 0, .int .u64 0, .int .u64 0, .int .i64 25, .int .i64 15, .int .i64 2, .int .u32 1, .int .u32 3, .int .u8 129, .int .i64 0, .int .u32 0, .int .i64 0, .int .u32 0, .int .u32 0, .int .i64 4, .int .i64 0, .int .u32 0, .int .u32 0, .int .i64 0, .bool false, .slice none 0 0, .int .i64 0, .int .u32 0, .int .u32 0, .int .i64 0, .int .i64 0, .int .u32 0, .int .i64 0, .int .i64 0, .int .i64 0, .int .u32 0, .int .u64 0, .int .u64 0, .int .u64 0, .int .u64 0, .int .i64 7, .int .i64 25, .int .i64 2, .int .u32 1, .int .u32 3, .int .u8 129, .int .i64 0, .int .u32 0, .int .i64 0, .int .u32 0, .int .u32 0, .int .i64 4, .int .i64 0, .int .u32 0, .int .u32 0, .int .i64 0, .bool false, .slice none 0 0, .int .i64 0, .int .u32 0, .int .u32 0, .int .i64 0, .int .i64 0, .int .u32 0, .int .i64 0, .int .i64 0, .int .i64 0, .int .u32 0, .int .u64 0, .int .u64 0, .int .u64 0, .int .u64 0, .int .i64 7, .int .i64 15, .int .i64 2, .int .u32 1, .int .u32 0, .int .u8 129, .int .i64 0, .int .u32 0, .int .i64 0, .int .u32 0, .int .u32 0, .int .i64 6, .int .i64 0, .int .u32 0, .int .u32 0, .int .i64 0, .bool false, .slice none 0 0, .int .i64 0, .int .u32 0, .int .u32 0, .int .i64 0, .int .i64 0, .int .u32 0, .int .i64 0, .int .i64 0, .int .i64 0, .int .u32 0, .int .u64 0, .int .u64 0, .int .u64 0, .int .u64 0, .int .i64 7, .int .i64 15, .int .i64 2, .int .u32 1, .int .u32 3, .int .u8 129, .int .i64 0, .int .u32 0, .int .i64 0, .int .u32 0, .int .u32 0, .int .i64 4, .int .i64 0, .int .u32 0, .int .u32 0, .int .i64 0, .bool false, .slice none 0 0, .int .i64 0, .int .u32 0, .int .u32 0, .int .i64 0, .int .i64 0, .int .u32 0, .int .i64 0, .int .i64 0, .int .i64 0, .int .u32 0, .int .u64 0, .int .u64 0, .int .u64 0, .int .u64 0, .int .i64 7, .int .i64 15, .int .i64 0, .int .u32 1, .int .u32 3, .int .u8 129, .int .i64 0, .int .u32 0, .int .i64 0, .int .u32 0, .int .u32 0, .int .i64 0, .int .i64 0, .int .u32 0, .int .u32 0, .int .i64 0, .bool false, .slice none 0 0, .int .i64 0, .int .u32 0, .int .u32 0, .int .i64 0, .int .i64 0, .int .u32 0, .int .i64 0, .int .i64 0, .int .i64 0, .int .u32 0, .int .u64 0, .int .u64 0, .int .u64 0, .int .u64 0, .int .i64 0, .int .i64 0, .int .i64 0, .int .u32 0, .int .u32 0, .int .u8 0, .int .i64 0, .int .u32 0, .int .i64 0, .int .u32 0, .int .u32 0]
theorem bad_set : (((((((((initC.setIfInBounds 7 (.int .i64 3)).setIfInBounds 8 (.int .u32 1)).setIfInBounds 9 (.int .u32 2)).setIfInBounds 53 (.int .i64 25)).setIfInBounds 86 (.int .i64 25)).setIfInBounds 121 (.int .u32 0)).setIfInBounds 128 (.int .i64 6)).setIfInBounds 183 (.int .i64 0)) : Array Value) = badC := by kernel_rfl
def KnR (Z : World) (i : Value) (wr : World) : Prop := ∃ k : Nat, i = .int .i64 k ∧ k ≤ 7 ∧ Below Z.heap.size Z wr
theorem bad_cells {w : World} {g : Nat} (hg : w.heap[g]? = some (.cells badC 38 (0, 0))) (o : Nat) (L : Array Value) (hL : badC.toList.drop o = L.toList ++ badC.toList.drop (o + 32)) : ∀ j v, L.toList[j]? = some v → w.cell? ((⟨g, o, none⟩ : Addr).add j) = some v := by
  intro j v hv
  have hadd : (⟨g, o, none⟩ : Addr).add j = ⟨g, o + j, none⟩ := by unfold Addr.add; split <;> simp_all
  rw [hadd, cell_of_row w g (o + j) badC _ _ hg, ← Array.getElem?_toList, ← List.getElem?_drop, hL, List.getElem?_append_left (List.getElem?_eq_some_iff.1 hv).1]
  exact hv
set_option maxHeartbeats 12800000 in
theorem msgKnown_walk (W : World) : Calls Try.prog 6 #[] W fun e W' => e = .returned (.bool true) ∧ Below W.heap.size W W' := by
  obtain ⟨E1, hE1⟩ : ∃ E, E = stM.enc := ⟨_, rfl⟩
  obtain ⟨E2, hE2⟩ : ∃ E, E = akM.enc := ⟨_, rfl⟩
  have H1 := Lib.hid stM_enc
  have H2 := Lib.hid akM_enc
  rw [← hE1] at H1
  rw [← hE2] at H2
  have HWI := Lib.hid wish_any
  have s1 : E1.size = 12 := by rw [hE1]; exact stM_size
  have q1 : E1.extract 0 10 = ⟨#[2, 3, 0, 0, 0, 1, 0, 0, 0, 2]⟩ := by rw [hE1]; exact stM_front
  have s2 : E2.size = 19 := by rw [hE2]; exact akM_size
  have q2 : E2.extract 0 17 = ⟨#[5, 2, 15, 7, 0, 0, 0, 1, 2, 0, 0, 0, 1, 0, 0, 0, 3]⟩ := by rw [hE2]; exact akM_front
  obtain ⟨E, hE⟩ : ∃ E, E = wishM.enc := ⟨_, rfl⟩
  have HEW := Lib.hid wish_enc
  rw [← hE] at HEW
  have HSE := Lib.hid (show E.size = 15 by rw [hE]; exact wish_size)
  have HNI := Lib.hid (show decME (bs (E.data.toList.set 5 9)) = 5 ∧ decM (bs (E.data.toList.set 5 9)) = Ms.zero by rw [hE]; exact dec_nine)
  obtain ⟨m0, hm0⟩ : ∃ m, m = decM ⟨#[]⟩ := ⟨_, rfl⟩
  have HD0 := Lib.hid (show ∀ V, Calls Try.prog 16 #[.string ⟨#[]⟩] V (DecM V m0 4) from fun V => by
    have h := mdecode_any ⟨#[]⟩ V (by decide)
    rw [dec_nil, ← hm0] at h
    exact h)
  obtain ⟨z5, hz5⟩ : ∃ b, b = bs (List.replicate 513 (0 : UInt8)) := ⟨_, rfl⟩
  obtain ⟨m1, hm1⟩ : ∃ m, m = decM z5 := ⟨_, rfl⟩
  have hz5s : z5.size = 513 := by rw [hz5, bs_size, List.length_replicate]
  have HD1 := Lib.hid (show ∀ V, Calls Try.prog 16 #[.string z5] V (DecM V m1 3) from fun V => by
    have h := mdecode_any z5 V (by omega)
    rw [dec_great hz5s, ← hm1] at h
    exact h)
  obtain ⟨m2, hm2⟩ : ∃ m, m = decM ⟨#[255, 255]⟩ := ⟨_, rfl⟩
  have HD2 := Lib.hid (show ∀ V, Calls Try.prog 16 #[.string ⟨#[255, 255]⟩] V (DecM V m2 4) from fun V => by
    have h := mdecode_any ⟨#[255, 255]⟩ V (by decide)
    rw [dec_two, ← hm2] at h
    exact h)
  obtain ⟨S, hS⟩ : ∃ b, b = sealB (bs [4, 0, 15, 2, 0, 0, 0, 1, 0, 0, 0, 3, 129]) := ⟨_, rfl⟩
  obtain ⟨m3, hm3⟩ : ∃ m, m = decM S := ⟨_, rfl⟩
  have HSL := Lib.hid (show ∀ V, Calls Try.prog 19 #[.string ⟨#[4, 0, 15, 2, 0, 0, 0, 1, 0, 0, 0, 3, 129]⟩] V (fun e X => e = .returned (.string S) ∧ Below V.heap.size V X) from fun V => by
    have h := seal_any (bs [4, 0, 15, 2, 0, 0, 0, 1, 0, 0, 0, 3, 129]) V (by decide)
    rw [← hS] at h
    exact h)
  have HD3 := Lib.hid (show ∀ V, Calls Try.prog 16 #[.string S] V (DecM V m3 4) from fun V => by
    have h := mdecode_any S V (by rw [hS, sealB_size, bs_size]; decide)
    rw [show decME S = 4 from by rw [hS]; exact dec_none, ← hm3] at h
    exact h)
  have HKE := Lib.hid (show ∀ V, Calls Try.prog 17 #[.string E] V (fun e X => e = .returned (.int .i64 4) ∧ Below V.heap.size V X) from fun V => by
    have h := mkind_any E V (by rw [HSE.out]; decide)
    rw [show knd E = 4 from by unfold knd; rw [hE, (decM_enc wish_ok wish_chk).1, if_pos rfl, (decM_enc wish_ok wish_chk).2]; rfl] at h
    exact h)
  have HZ5 := Lib.hid hz5
  clear hE1 hE2 hE hm0 hz5 hm1 hz5s hm2 hS hm3
  go_enter Try.func6, Try.ntmps6
  go_wp2_with fail
  refine (H1.out W).mono ?_
  rintro e V1 ⟨rfl, hb⟩
  have B1 := Lib.hid hb
  clear hb
  go_wp2_with fail
  refine (H2.out V1).mono ?_
  rintro e V2 ⟨rfl, hb⟩
  have B2 := Lib.hid (B1.out.trans (hb.mono B1.out.size))
  clear hb
  go_wp2_with fail
  refine (HWI.out V2).mono ?_
  rintro e V3 ⟨rfl, hb⟩
  have B3 := Lib.hid (B2.out.trans (hb.mono B2.out.size))
  clear hb
  go_wp2_with fail
  refine (HWI.out V3).mono ?_
  rintro e V4 ⟨rfl, hb⟩
  have B4 := Lib.hid (B3.out.trans (hb.mono B3.out.size))
  clear hb
  go_wp2_with fail
  refine (HWI.out V4).mono ?_
  rintro e V5 ⟨rfl, hb⟩
  have B5 := Lib.hid (B4.out.trans (hb.mono B4.out.size))
  clear hb
  go_wp2_with fail
  refine (HWI.out V5).mono ?_
  rintro e V6 ⟨rfl, hb⟩
  have B6 := Lib.hid (B5.out.trans (hb.mono B5.out.size))
  clear hb
  go_wp2_with fail
  refine (HWI.out V6).mono ?_
  rintro e V7 ⟨rfl, hb⟩
  have B7 := Lib.hid (B6.out.trans (hb.mono B6.out.size))
  clear hb
  go_wp2_with fail
  refine (HWI.out V7).mono ?_
  rintro e V8 ⟨rfl, hb⟩
  have B8 := Lib.hid (B7.out.trans (hb.mono B7.out.size))
  clear hb
  clear s1 q1 s2 q2
  go_upto_region 6 with (with_reducible show wpList _ _ _ (⟨some 61, _, _, _, _, _⟩ :: _) _ _; refine wpList_eq rfl (v := .slice (some ⟨V8.heap.size, 0, none⟩) 7 7) (w' := V8.alloc (.cells initC 38)) (by kernel_rfl) ?_)
  obtain ⟨Y0, hY⟩ : ∃ Z, Z = V8.alloc (.cells initC 38) := ⟨_, rfl⟩
  obtain ⟨g, hg⟩ : ∃ g, g = V8.heap.size := ⟨_, rfl⟩
  have HYB := Lib.hid (show Y0.heap[g]? = some (.cells initC 38 (0, 0)) from by rw [hY, hg]; exact heap_alloc_new _ _)
  have BY := Lib.hid (show Below W.heap.size W Y0 from by rw [hY]; exact B8.out.alloc B8.out.size _)
  have HGW := Lib.hid (show W.heap.size ≤ g by rw [hg]; exact B8.out.size)
  rw [← hY, ← hg]
  clear hY hg
  have c7 : Y0.cell? ⟨g, 7, none⟩ = some (.int .i64 0) := (cell_of_row _ _ 7 _ _ _ HYB.out).trans (by kernel_rfl)
  have f7 : Y0.frozen? ⟨g, 7, none⟩ = false := frozen_of_row _ _ 7 _ _ HYB.out
  have c8 : Y0.cell? ⟨g, 8, none⟩ = some (.int .u32 0) := (cell_of_row _ _ 8 _ _ _ HYB.out).trans (by kernel_rfl)
  have f8 : Y0.frozen? ⟨g, 8, none⟩ = false := frozen_of_row _ _ 8 _ _ HYB.out
  have c9 : Y0.cell? ⟨g, 9, none⟩ = some (.int .u32 0) := (cell_of_row _ _ 9 _ _ _ HYB.out).trans (by kernel_rfl)
  have f9 : Y0.frozen? ⟨g, 9, none⟩ = false := frozen_of_row _ _ 9 _ _ HYB.out
  have c53 : Y0.cell? ⟨g, 53, none⟩ = some (.int .i64 7) := (cell_of_row _ _ 53 _ _ _ HYB.out).trans (by kernel_rfl)
  have f53 : Y0.frozen? ⟨g, 53, none⟩ = false := frozen_of_row _ _ 53 _ _ HYB.out
  have c86 : Y0.cell? ⟨g, 86, none⟩ = some (.int .i64 15) := (cell_of_row _ _ 86 _ _ _ HYB.out).trans (by kernel_rfl)
  have f86 : Y0.frozen? ⟨g, 86, none⟩ = false := frozen_of_row _ _ 86 _ _ HYB.out
  have c121 : Y0.cell? ⟨g, 121, none⟩ = some (.int .u32 3) := (cell_of_row _ _ 121 _ _ _ HYB.out).trans (by kernel_rfl)
  have f121 : Y0.frozen? ⟨g, 121, none⟩ = false := frozen_of_row _ _ 121 _ _ HYB.out
  have c128 : Y0.cell? ⟨g, 128, none⟩ = some (.int .i64 4) := (cell_of_row _ _ 128 _ _ _ HYB.out).trans (by kernel_rfl)
  have f128 : Y0.frozen? ⟨g, 128, none⟩ = false := frozen_of_row _ _ 128 _ _ HYB.out
  have c183 : Y0.cell? ⟨g, 183, none⟩ = some (.int .i64 2) := (cell_of_row _ _ 183 _ _ _ HYB.out).trans (by kernel_rfl)
  have f183 : Y0.frozen? ⟨g, 183, none⟩ = false := frozen_of_row _ _ 183 _ _ HYB.out
  obtain ⟨Z, hZ⟩ : ∃ Z, Z = ((((((((Y0.setCell ⟨g, 7, none⟩ (.int .i64 3)).setCell ⟨g, 8, none⟩ (.int .u32 1)).setCell ⟨g, 9, none⟩ (.int .u32 2)).setCell ⟨g, 53, none⟩ (.int .i64 25)).setCell ⟨g, 86, none⟩ (.int .i64 25)).setCell ⟨g, 121, none⟩ (.int .u32 0)).setCell ⟨g, 128, none⟩ (.int .i64 6)).setCell ⟨g, 183, none⟩ (.int .i64 0)) := ⟨_, rfl⟩
  have HZB := Lib.hid (show Z.heap[g]? = some (.cells badC 38 (0, 0)) from by
    rw [hZ]
    have h := (heap_setCell_same _ g 183 _ _ (.int .i64 0) (heap_setCell_same _ g 128 _ _ (.int .i64 6) (heap_setCell_same _ g 121 _ _ (.int .u32 0) (heap_setCell_same _ g 86 _ _ (.int .i64 25) (heap_setCell_same _ g 53 _ _ (.int .i64 25) (heap_setCell_same _ g 9 _ _ (.int .u32 2) (heap_setCell_same _ g 8 _ _ (.int .u32 1) (heap_setCell_same _ g 7 _ _ (.int .i64 3) HYB.out))))))))
    rw [show (((((((((initC.setIfInBounds 7 (.int .i64 3)).setIfInBounds 8 (.int .u32 1)).setIfInBounds 9 (.int .u32 2)).setIfInBounds 53 (.int .i64 25)).setIfInBounds 86 (.int .i64 25)).setIfInBounds 121 (.int .u32 0)).setIfInBounds 128 (.int .i64 6)).setIfInBounds 183 (.int .i64 0)) : Array Value) = badC from bad_set] at h
    exact h)
  have BZ := Lib.hid (show Below W.heap.size W Z from by
    rw [hZ]
    have := HGW.out
    repeat (with_reducible refine Below.setCell ?_ (by simp only; omega) _)
    exact BY.out)
  have HZ := Lib.hid hZ
  clear hZ
  go_upto_region 12 with fail
  rw [← HZ.out]
  clear c7 f7 c8 f8 c9 f9 c53 f53 c86 f86 c121 f121 c128 f128 c183 f183
  have H0 := Lib.hid (show KnR Z (.int .i64 0) Z from ⟨0, rfl, Nat.zero_le _, Below.refl _ _⟩)
  go_wp2_with fail
  go_loopw [6] (fun i wr => KnR Z i wr) (fun i _ => 7 - (intOf i).toNat)
  case atStart => exact H0.out
  case round =>
    clear H0
    obtain ⟨k, rfl, hk, hbel⟩ := hrel
    have HBEL := Lib.hid hbel
    have HBW := Lib.hid (BZ.out.trans (hbel.mono BZ.out.size))
    have HBC := Lib.hid (show wr.heap[g]? = some (.cells badC 38 (0, 0)) from (hbel.block g (Array.getElem?_eq_some_iff.1 HZB.out).1).trans HZB.out)
    clear hbel
    rcases (show k = 0 ∨ k = 1 ∨ k = 2 ∨ k = 3 ∨ k = 4 ∨ k = 5 ∨ k = 6 ∨ k = 7 by omega) with rfl | rfl | rfl | rfl | rfl | rfl | rfl | rfl
    · have HCC := Lib.hid (show ∀ j v, (#[.int .i64 4, .int .i64 0, .int .u32 0, .int .u32 0, .int .i64 0, .bool false, .slice none 0 0, .int .i64 3, .int .u32 1, .int .u32 2, .int .i64 0, .int .i64 0, .int .u32 0, .int .i64 0, .int .i64 0, .int .i64 0, .int .u32 0, .int .u64 0, .int .u64 0, .int .u64 0, .int .u64 0, .int .i64 7, .int .i64 15, .int .i64 2, .int .u32 1, .int .u32 3, .int .u8 129, .int .i64 0, .int .u32 0, .int .i64 0, .int .u32 0, .int .u32 0] : Array Value).toList[j]? = some v → wr.cell? ((⟨g, 0, none⟩ : Addr).add j) = some v from bad_cells HBC.out 0 _ rfl)
      have HGI := Lib.hid (show (Try.prog.info? 38).map (·.size) = some (#[.int .i64 4, .int .i64 0, .int .u32 0, .int .u32 0, .int .i64 0, .bool false, .slice none 0 0, .int .i64 3, .int .u32 1, .int .u32 2, .int .i64 0, .int .i64 0, .int .u32 0, .int .i64 0, .int .i64 0, .int .i64 0, .int .u32 0, .int .u64 0, .int .u64 0, .int .u64 0, .int .u64 0, .int .i64 7, .int .i64 15, .int .i64 2, .int .u32 1, .int .u32 3, .int .u8 129, .int .i64 0, .int .u32 0, .int .i64 0, .int .u32 0, .int .u32 0] : Array Value).toList.length from info_msg Ms.zero none 0)
      have HREL := Lib.hid (fun X (hX : Below wr.heap.size wr X) => show KnR Z (.int .i64 1) X from ⟨1, rfl, by omega, HBEL.out.trans (hX.mono HBEL.out.size)⟩)
      go_wp2_with ((with_reducible refine wpList_load_cs rfl 38 (.tmp 91) rfl ⟨g, 0, none⟩ rfl (#[.int .i64 4, .int .i64 0, .int .u32 0, .int .u32 0, .int .i64 0, .bool false, .slice none 0 0, .int .i64 3, .int .u32 1, .int .u32 2, .int .i64 0, .int .i64 0, .int .u32 0, .int .i64 0, .int .i64 0, .int .i64 0, .int .u32 0, .int .u64 0, .int .u64 0, .int .u64 0, .int .u64 0, .int .i64 7, .int .i64 15, .int .i64 2, .int .u32 1, .int .u32 3, .int .u8 129, .int .i64 0, .int .u32 0, .int .i64 0, .int .u32 0, .int .u32 0] : Array Value).toList _ HCC.out Try.underlying38 rfl HGI.out ?_); rw [Array.toArray_toList])
      refine (bad0_any wr).mono ?_
      rintro e X ⟨rfl, hb⟩
      have HR2 := Lib.hid (HREL.out X hb)
      clear hb
      go_wp2_with fail
      go_roundw
      case rel => first | exact HR2.out | exact ⟨_, HR2.out, rfl⟩ | ((repeat apply Exists.intro); exact ⟨HR2.out, rfl⟩)
      case measure => simp [intOf]
    · have HCC := Lib.hid (show ∀ j v, (#[.int .i64 4, .int .i64 0, .int .u32 0, .int .u32 0, .int .i64 0, .bool false, .slice none 0 0, .int .i64 0, .int .u32 0, .int .u32 0, .int .i64 0, .int .i64 0, .int .u32 0, .int .i64 0, .int .i64 0, .int .i64 0, .int .u32 0, .int .u64 0, .int .u64 0, .int .u64 0, .int .u64 0, .int .i64 25, .int .i64 15, .int .i64 2, .int .u32 1, .int .u32 3, .int .u8 129, .int .i64 0, .int .u32 0, .int .i64 0, .int .u32 0, .int .u32 0] : Array Value).toList[j]? = some v → wr.cell? ((⟨g, 32, none⟩ : Addr).add j) = some v from bad_cells HBC.out 32 _ rfl)
      have HGI := Lib.hid (show (Try.prog.info? 38).map (·.size) = some (#[.int .i64 4, .int .i64 0, .int .u32 0, .int .u32 0, .int .i64 0, .bool false, .slice none 0 0, .int .i64 0, .int .u32 0, .int .u32 0, .int .i64 0, .int .i64 0, .int .u32 0, .int .i64 0, .int .i64 0, .int .i64 0, .int .u32 0, .int .u64 0, .int .u64 0, .int .u64 0, .int .u64 0, .int .i64 25, .int .i64 15, .int .i64 2, .int .u32 1, .int .u32 3, .int .u8 129, .int .i64 0, .int .u32 0, .int .i64 0, .int .u32 0, .int .u32 0] : Array Value).toList.length from info_msg Ms.zero none 0)
      have HREL := Lib.hid (fun X (hX : Below wr.heap.size wr X) => show KnR Z (.int .i64 2) X from ⟨2, rfl, by omega, HBEL.out.trans (hX.mono HBEL.out.size)⟩)
      go_wp2_with ((with_reducible refine wpList_load_cs rfl 38 (.tmp 91) rfl ⟨g, 32, none⟩ rfl (#[.int .i64 4, .int .i64 0, .int .u32 0, .int .u32 0, .int .i64 0, .bool false, .slice none 0 0, .int .i64 0, .int .u32 0, .int .u32 0, .int .i64 0, .int .i64 0, .int .u32 0, .int .i64 0, .int .i64 0, .int .i64 0, .int .u32 0, .int .u64 0, .int .u64 0, .int .u64 0, .int .u64 0, .int .i64 25, .int .i64 15, .int .i64 2, .int .u32 1, .int .u32 3, .int .u8 129, .int .i64 0, .int .u32 0, .int .i64 0, .int .u32 0, .int .u32 0] : Array Value).toList _ HCC.out Try.underlying38 rfl HGI.out ?_); rw [Array.toArray_toList])
      refine (bad1_any wr).mono ?_
      rintro e X ⟨rfl, hb⟩
      have HR2 := Lib.hid (HREL.out X hb)
      clear hb
      go_wp2_with fail
      go_roundw
      case rel => first | exact HR2.out | exact ⟨_, HR2.out, rfl⟩ | ((repeat apply Exists.intro); exact ⟨HR2.out, rfl⟩)
      case measure => simp [intOf]
    · have HCC := Lib.hid (show ∀ j v, (#[.int .i64 4, .int .i64 0, .int .u32 0, .int .u32 0, .int .i64 0, .bool false, .slice none 0 0, .int .i64 0, .int .u32 0, .int .u32 0, .int .i64 0, .int .i64 0, .int .u32 0, .int .i64 0, .int .i64 0, .int .i64 0, .int .u32 0, .int .u64 0, .int .u64 0, .int .u64 0, .int .u64 0, .int .i64 7, .int .i64 25, .int .i64 2, .int .u32 1, .int .u32 3, .int .u8 129, .int .i64 0, .int .u32 0, .int .i64 0, .int .u32 0, .int .u32 0] : Array Value).toList[j]? = some v → wr.cell? ((⟨g, 64, none⟩ : Addr).add j) = some v from bad_cells HBC.out 64 _ rfl)
      have HGI := Lib.hid (show (Try.prog.info? 38).map (·.size) = some (#[.int .i64 4, .int .i64 0, .int .u32 0, .int .u32 0, .int .i64 0, .bool false, .slice none 0 0, .int .i64 0, .int .u32 0, .int .u32 0, .int .i64 0, .int .i64 0, .int .u32 0, .int .i64 0, .int .i64 0, .int .i64 0, .int .u32 0, .int .u64 0, .int .u64 0, .int .u64 0, .int .u64 0, .int .i64 7, .int .i64 25, .int .i64 2, .int .u32 1, .int .u32 3, .int .u8 129, .int .i64 0, .int .u32 0, .int .i64 0, .int .u32 0, .int .u32 0] : Array Value).toList.length from info_msg Ms.zero none 0)
      have HREL := Lib.hid (fun X (hX : Below wr.heap.size wr X) => show KnR Z (.int .i64 3) X from ⟨3, rfl, by omega, HBEL.out.trans (hX.mono HBEL.out.size)⟩)
      go_wp2_with ((with_reducible refine wpList_load_cs rfl 38 (.tmp 91) rfl ⟨g, 64, none⟩ rfl (#[.int .i64 4, .int .i64 0, .int .u32 0, .int .u32 0, .int .i64 0, .bool false, .slice none 0 0, .int .i64 0, .int .u32 0, .int .u32 0, .int .i64 0, .int .i64 0, .int .u32 0, .int .i64 0, .int .i64 0, .int .i64 0, .int .u32 0, .int .u64 0, .int .u64 0, .int .u64 0, .int .u64 0, .int .i64 7, .int .i64 25, .int .i64 2, .int .u32 1, .int .u32 3, .int .u8 129, .int .i64 0, .int .u32 0, .int .i64 0, .int .u32 0, .int .u32 0] : Array Value).toList _ HCC.out Try.underlying38 rfl HGI.out ?_); rw [Array.toArray_toList])
      refine (bad2_any wr).mono ?_
      rintro e X ⟨rfl, hb⟩
      have HR2 := Lib.hid (HREL.out X hb)
      clear hb
      go_wp2_with fail
      go_roundw
      case rel => first | exact HR2.out | exact ⟨_, HR2.out, rfl⟩ | ((repeat apply Exists.intro); exact ⟨HR2.out, rfl⟩)
      case measure => simp [intOf]
    · have HCC := Lib.hid (show ∀ j v, (#[.int .i64 4, .int .i64 0, .int .u32 0, .int .u32 0, .int .i64 0, .bool false, .slice none 0 0, .int .i64 0, .int .u32 0, .int .u32 0, .int .i64 0, .int .i64 0, .int .u32 0, .int .i64 0, .int .i64 0, .int .i64 0, .int .u32 0, .int .u64 0, .int .u64 0, .int .u64 0, .int .u64 0, .int .i64 7, .int .i64 15, .int .i64 2, .int .u32 1, .int .u32 0, .int .u8 129, .int .i64 0, .int .u32 0, .int .i64 0, .int .u32 0, .int .u32 0] : Array Value).toList[j]? = some v → wr.cell? ((⟨g, 96, none⟩ : Addr).add j) = some v from bad_cells HBC.out 96 _ rfl)
      have HGI := Lib.hid (show (Try.prog.info? 38).map (·.size) = some (#[.int .i64 4, .int .i64 0, .int .u32 0, .int .u32 0, .int .i64 0, .bool false, .slice none 0 0, .int .i64 0, .int .u32 0, .int .u32 0, .int .i64 0, .int .i64 0, .int .u32 0, .int .i64 0, .int .i64 0, .int .i64 0, .int .u32 0, .int .u64 0, .int .u64 0, .int .u64 0, .int .u64 0, .int .i64 7, .int .i64 15, .int .i64 2, .int .u32 1, .int .u32 0, .int .u8 129, .int .i64 0, .int .u32 0, .int .i64 0, .int .u32 0, .int .u32 0] : Array Value).toList.length from info_msg Ms.zero none 0)
      have HREL := Lib.hid (fun X (hX : Below wr.heap.size wr X) => show KnR Z (.int .i64 4) X from ⟨4, rfl, by omega, HBEL.out.trans (hX.mono HBEL.out.size)⟩)
      go_wp2_with ((with_reducible refine wpList_load_cs rfl 38 (.tmp 91) rfl ⟨g, 96, none⟩ rfl (#[.int .i64 4, .int .i64 0, .int .u32 0, .int .u32 0, .int .i64 0, .bool false, .slice none 0 0, .int .i64 0, .int .u32 0, .int .u32 0, .int .i64 0, .int .i64 0, .int .u32 0, .int .i64 0, .int .i64 0, .int .i64 0, .int .u32 0, .int .u64 0, .int .u64 0, .int .u64 0, .int .u64 0, .int .i64 7, .int .i64 15, .int .i64 2, .int .u32 1, .int .u32 0, .int .u8 129, .int .i64 0, .int .u32 0, .int .i64 0, .int .u32 0, .int .u32 0] : Array Value).toList _ HCC.out Try.underlying38 rfl HGI.out ?_); rw [Array.toArray_toList])
      refine (bad3_any wr).mono ?_
      rintro e X ⟨rfl, hb⟩
      have HR2 := Lib.hid (HREL.out X hb)
      clear hb
      go_wp2_with fail
      go_roundw
      case rel => first | exact HR2.out | exact ⟨_, HR2.out, rfl⟩ | ((repeat apply Exists.intro); exact ⟨HR2.out, rfl⟩)
      case measure => simp [intOf]
    · have HCC := Lib.hid (show ∀ j v, (#[.int .i64 6, .int .i64 0, .int .u32 0, .int .u32 0, .int .i64 0, .bool false, .slice none 0 0, .int .i64 0, .int .u32 0, .int .u32 0, .int .i64 0, .int .i64 0, .int .u32 0, .int .i64 0, .int .i64 0, .int .i64 0, .int .u32 0, .int .u64 0, .int .u64 0, .int .u64 0, .int .u64 0, .int .i64 7, .int .i64 15, .int .i64 2, .int .u32 1, .int .u32 3, .int .u8 129, .int .i64 0, .int .u32 0, .int .i64 0, .int .u32 0, .int .u32 0] : Array Value).toList[j]? = some v → wr.cell? ((⟨g, 128, none⟩ : Addr).add j) = some v from bad_cells HBC.out 128 _ rfl)
      have HGI := Lib.hid (show (Try.prog.info? 38).map (·.size) = some (#[.int .i64 6, .int .i64 0, .int .u32 0, .int .u32 0, .int .i64 0, .bool false, .slice none 0 0, .int .i64 0, .int .u32 0, .int .u32 0, .int .i64 0, .int .i64 0, .int .u32 0, .int .i64 0, .int .i64 0, .int .i64 0, .int .u32 0, .int .u64 0, .int .u64 0, .int .u64 0, .int .u64 0, .int .i64 7, .int .i64 15, .int .i64 2, .int .u32 1, .int .u32 3, .int .u8 129, .int .i64 0, .int .u32 0, .int .i64 0, .int .u32 0, .int .u32 0] : Array Value).toList.length from info_msg Ms.zero none 0)
      have HREL := Lib.hid (fun X (hX : Below wr.heap.size wr X) => show KnR Z (.int .i64 5) X from ⟨5, rfl, by omega, HBEL.out.trans (hX.mono HBEL.out.size)⟩)
      go_wp2_with ((with_reducible refine wpList_load_cs rfl 38 (.tmp 91) rfl ⟨g, 128, none⟩ rfl (#[.int .i64 6, .int .i64 0, .int .u32 0, .int .u32 0, .int .i64 0, .bool false, .slice none 0 0, .int .i64 0, .int .u32 0, .int .u32 0, .int .i64 0, .int .i64 0, .int .u32 0, .int .i64 0, .int .i64 0, .int .i64 0, .int .u32 0, .int .u64 0, .int .u64 0, .int .u64 0, .int .u64 0, .int .i64 7, .int .i64 15, .int .i64 2, .int .u32 1, .int .u32 3, .int .u8 129, .int .i64 0, .int .u32 0, .int .i64 0, .int .u32 0, .int .u32 0] : Array Value).toList _ HCC.out Try.underlying38 rfl HGI.out ?_); rw [Array.toArray_toList])
      refine (bad4_any wr).mono ?_
      rintro e X ⟨rfl, hb⟩
      have HR2 := Lib.hid (HREL.out X hb)
      clear hb
      go_wp2_with fail
      go_roundw
      case rel => first | exact HR2.out | exact ⟨_, HR2.out, rfl⟩ | ((repeat apply Exists.intro); exact ⟨HR2.out, rfl⟩)
      case measure => simp [intOf]
    · have HCC := Lib.hid (show ∀ j v, (#[.int .i64 4, .int .i64 0, .int .u32 0, .int .u32 0, .int .i64 0, .bool false, .slice none 0 0, .int .i64 0, .int .u32 0, .int .u32 0, .int .i64 0, .int .i64 0, .int .u32 0, .int .i64 0, .int .i64 0, .int .i64 0, .int .u32 0, .int .u64 0, .int .u64 0, .int .u64 0, .int .u64 0, .int .i64 7, .int .i64 15, .int .i64 0, .int .u32 1, .int .u32 3, .int .u8 129, .int .i64 0, .int .u32 0, .int .i64 0, .int .u32 0, .int .u32 0] : Array Value).toList[j]? = some v → wr.cell? ((⟨g, 160, none⟩ : Addr).add j) = some v from bad_cells HBC.out 160 _ rfl)
      have HGI := Lib.hid (show (Try.prog.info? 38).map (·.size) = some (#[.int .i64 4, .int .i64 0, .int .u32 0, .int .u32 0, .int .i64 0, .bool false, .slice none 0 0, .int .i64 0, .int .u32 0, .int .u32 0, .int .i64 0, .int .i64 0, .int .u32 0, .int .i64 0, .int .i64 0, .int .i64 0, .int .u32 0, .int .u64 0, .int .u64 0, .int .u64 0, .int .u64 0, .int .i64 7, .int .i64 15, .int .i64 0, .int .u32 1, .int .u32 3, .int .u8 129, .int .i64 0, .int .u32 0, .int .i64 0, .int .u32 0, .int .u32 0] : Array Value).toList.length from info_msg Ms.zero none 0)
      have HREL := Lib.hid (fun X (hX : Below wr.heap.size wr X) => show KnR Z (.int .i64 6) X from ⟨6, rfl, by omega, HBEL.out.trans (hX.mono HBEL.out.size)⟩)
      go_wp2_with ((with_reducible refine wpList_load_cs rfl 38 (.tmp 91) rfl ⟨g, 160, none⟩ rfl (#[.int .i64 4, .int .i64 0, .int .u32 0, .int .u32 0, .int .i64 0, .bool false, .slice none 0 0, .int .i64 0, .int .u32 0, .int .u32 0, .int .i64 0, .int .i64 0, .int .u32 0, .int .i64 0, .int .i64 0, .int .i64 0, .int .u32 0, .int .u64 0, .int .u64 0, .int .u64 0, .int .u64 0, .int .i64 7, .int .i64 15, .int .i64 0, .int .u32 1, .int .u32 3, .int .u8 129, .int .i64 0, .int .u32 0, .int .i64 0, .int .u32 0, .int .u32 0] : Array Value).toList _ HCC.out Try.underlying38 rfl HGI.out ?_); rw [Array.toArray_toList])
      refine (bad5_any wr).mono ?_
      rintro e X ⟨rfl, hb⟩
      have HR2 := Lib.hid (HREL.out X hb)
      clear hb
      go_wp2_with fail
      go_roundw
      case rel => first | exact HR2.out | exact ⟨_, HR2.out, rfl⟩ | ((repeat apply Exists.intro); exact ⟨HR2.out, rfl⟩)
      case measure => simp [intOf]
    · have HCC := Lib.hid (show ∀ j v, (#[.int .i64 0, .int .i64 0, .int .u32 0, .int .u32 0, .int .i64 0, .bool false, .slice none 0 0, .int .i64 0, .int .u32 0, .int .u32 0, .int .i64 0, .int .i64 0, .int .u32 0, .int .i64 0, .int .i64 0, .int .i64 0, .int .u32 0, .int .u64 0, .int .u64 0, .int .u64 0, .int .u64 0, .int .i64 0, .int .i64 0, .int .i64 0, .int .u32 0, .int .u32 0, .int .u8 0, .int .i64 0, .int .u32 0, .int .i64 0, .int .u32 0, .int .u32 0] : Array Value).toList[j]? = some v → wr.cell? ((⟨g, 192, none⟩ : Addr).add j) = some v from bad_cells HBC.out 192 _ rfl)
      have HGI := Lib.hid (show (Try.prog.info? 38).map (·.size) = some (#[.int .i64 0, .int .i64 0, .int .u32 0, .int .u32 0, .int .i64 0, .bool false, .slice none 0 0, .int .i64 0, .int .u32 0, .int .u32 0, .int .i64 0, .int .i64 0, .int .u32 0, .int .i64 0, .int .i64 0, .int .i64 0, .int .u32 0, .int .u64 0, .int .u64 0, .int .u64 0, .int .u64 0, .int .i64 0, .int .i64 0, .int .i64 0, .int .u32 0, .int .u32 0, .int .u8 0, .int .i64 0, .int .u32 0, .int .i64 0, .int .u32 0, .int .u32 0] : Array Value).toList.length from info_msg Ms.zero none 0)
      have HREL := Lib.hid (fun X (hX : Below wr.heap.size wr X) => show KnR Z (.int .i64 7) X from ⟨7, rfl, by omega, HBEL.out.trans (hX.mono HBEL.out.size)⟩)
      go_wp2_with ((with_reducible refine wpList_load_cs rfl 38 (.tmp 91) rfl ⟨g, 192, none⟩ rfl (#[.int .i64 0, .int .i64 0, .int .u32 0, .int .u32 0, .int .i64 0, .bool false, .slice none 0 0, .int .i64 0, .int .u32 0, .int .u32 0, .int .i64 0, .int .i64 0, .int .u32 0, .int .i64 0, .int .i64 0, .int .i64 0, .int .u32 0, .int .u64 0, .int .u64 0, .int .u64 0, .int .u64 0, .int .i64 0, .int .i64 0, .int .i64 0, .int .u32 0, .int .u32 0, .int .u8 0, .int .i64 0, .int .u32 0, .int .i64 0, .int .u32 0, .int .u32 0] : Array Value).toList _ HCC.out Try.underlying38 rfl HGI.out ?_); rw [Array.toArray_toList])
      refine (bad6_any wr).mono ?_
      rintro e X ⟨rfl, hb⟩
      have HR2 := Lib.hid (HREL.out X hb)
      clear hb
      go_wp2_with fail
      go_roundw
      case rel => first | exact HR2.out | exact ⟨_, HR2.out, rfl⟩ | ((repeat apply Exists.intro); exact ⟨HR2.out, rfl⟩)
      case measure => simp [intOf]
    · go_wp2_with fail
      refine (HWI.out wr).mono ?_
      rintro e U1 ⟨rfl, hb⟩
      have C1 := Lib.hid (HBW.out.trans (hb.mono HBW.out.size))
      clear hb
      go_wp2_with fail
      refine (HEW.out U1).mono ?_
      rintro e U2 ⟨rfl, hb⟩
      have C2 := Lib.hid (C1.out.trans (hb.mono C1.out.size))
      clear hb
      go_wp2_with (with_reducible show wpList _ _ _ (⟨some 101, _, _, _, _, _⟩ :: _) _ _; refine wpList_bytes_row rfl (.tmp 100) 9 52 5 rfl Try.underlying9 Try.underlying52 Try.underlying5 E rfl U2.heap.size (Nat.le_refl _) (by rw [HSE.out]; decide) ?_; intro v1 w1 hrow1 hb1)
      rw [HSE.out] at hrow1
      have C3 := Lib.hid (C2.out.trans (hb1.mono C2.out.size))
      have HGT := Lib.hid C2.out.size
      clear hb1
      obtain ⟨gb, cap, rfl, hge, hglt, hcap1, hcap2, hcells, hfrz⟩ := Row.form hrow1 (by omega)
      obtain ⟨x, hx⟩ : ∃ x, x = E.data.toList.getD 5 0 := ⟨_, rfl⟩
      have hil : 5 < E.data.toList.length := by rw [size_eq, HSE.out]; omega
      have hci : w1.cell? ⟨gb, 5, none⟩ = some (.int .u8 (x.toNat : Int)) := by
        rw [hcells 5 (by omega), List.getElem?_map, List.getElem?_eq_getElem hil, hx, List.getD_eq_getElem?_getD, List.getElem?_eq_getElem hil]
        rfl
      have hfi := hfrz 5 (by omega)
      obtain ⟨hst, hgr⟩ := Row.stored hrow1 5 (.int .u8 9)
      obtain ⟨U, hU⟩ : ∃ U, U = w1.setCell ⟨gb, 5, none⟩ (.int .u8 9) := ⟨_, rfl⟩
      rw [← hU] at hst
      obtain ⟨s, hs⟩ : ∃ s, s = bs (E.data.toList.set 5 9) := ⟨_, rfl⟩
      have HROW := Lib.hid (show Row U U2.heap.size 5 1 (.slice (some ⟨gb, 0, none⟩) 15 cap) 15 ((E.data.toList.set 5 9).map byteV) by
        rw [List.map_set, show byteV 9 = .int .u8 9 from rfl]
        exact hst)
      have HTS := Lib.hid (show decME s = 5 ∧ decM s = Ms.zero ∧ s.size = 15 from ⟨by rw [hs]; exact HNI.out.1, by rw [hs]; exact HNI.out.2, by rw [hs, bs_size, List.length_set, size_eq, HSE.out]⟩)
      have HS5 := Lib.hid (show Below W.heap.size W U from by rw [hU]; exact C3.out.setCell (by have := HGT.out; simp only; omega) _)
      have HXS := Lib.hid (fun (V : World) (hV : Below U.heap.size U V) => run_string_row (P := Try.prog) 52 9 Try.underlying52 Try.underlying5 Try.underlying9 (Row.later HROW.out hV))
      rw [← hs] at HXS
      have HU := Lib.hid hU
      clear hrow1 hcells hfrz hst hgr hU hs hx hil hge
      have HDC := Lib.hid (show ∀ V, Calls Try.prog 16 #[.string s] V (DecM V Ms.zero 5) from fun V => by
        have h := mdecode_any s V (by rw [HTS.out.2.2]; decide)
        rw [HTS.out.1, HTS.out.2.1] at h
        exact h)
      have HKC := Lib.hid (show ∀ V, Calls Try.prog 17 #[.string s] V (fun e X => e = .returned (.int .i64 0) ∧ Below V.heap.size V X) from fun V => by
        have h := mkind_any s V (by rw [HTS.out.2.2]; decide)
        rw [show knd s = 0 from by unfold knd; rw [HTS.out.1]; rfl] at h
        exact h)
      have hidx : Sem.run Try.prog (Instr.indexAt 52 (.slice (some ⟨gb, 0, none⟩) 15 cap) (.int .i64 5)) w1 = .ok (.pointer (some ⟨gb, 5, none⟩)) w1 := by
        first | kernel_rfl | (go_simp; done) | rfl
      go_wp2_with fail
      (try rw [hidx])
      (try go_wp2_with fail)
      rw [← HU.out]
      clear hci hfi hidx
      refine (HD0.out U).mono ?_
      rintro e X1 ⟨ua, uc, rfl, har, hb⟩
      unfold Ms.ag
      have D1 := Lib.hid hb
      clear har hb
      obtain ⟨i0, hi, hz0, hz1, hz2⟩ := info_parts Try.infoU8
      go_wp2_with (at_make; refine wpList_make_full _ rfl (.const (.int .i64 513)) (.const (.int .i64 513)) 52 rfl X1.heap.size 5 i0 (.int .u8 0) 1 Try.underlying52 hi hz0 hz1 .i64 .i64 513 513 513 rfl rfl rfl rfl ?c1 ?c2 (Nat.le_refl _) ?_)
      case c1 => rw [hz2]; decide
      case c2 => unfold maxLen; omega
      intro w3 hown3 hg3
      have hrow3 := Row.of_own hown3
      have hb3 : Below X1.heap.size X1 w3 := ⟨hg3.os, hg3.tape, hg3.output, hg3.size, fun k hk => hg3.block k hk (by simp)⟩
      have hl3 : (madeCells #[Value.int .u8 0] 513).toList = (List.replicate 513 (0 : UInt8)).map byteV := by
        rw [List.map_replicate]
        exact toList_madeCells_one _ _
      rw [hl3] at hrow3
      have hcv3 := run_string_row (P := Try.prog) 52 9 Try.underlying52 Try.underlying5 Try.underlying9 hrow3
      rw [← HZ5.out] at hcv3
      have D2 := Lib.hid (D1.out.trans (hb3.mono D1.out.size))
      clear hown3 hg3 hrow3 hb3 hl3 hi hz0 hz1 hz2
      go_wp2_with fail
      clear hcv3
      refine (HD1.out w3).mono ?_
      rintro e X2 ⟨ua2, uc2, rfl, har, hb⟩
      unfold Ms.ag
      have D3 := Lib.hid (D2.out.trans (hb.mono D2.out.size))
      clear har hb
      have hcv := HXS.out X2 D3.out
      go_wp2_with fail
      refine (HDC.out X2).mono ?_
      rintro e P4 ⟨pa4, pc4, rfl, har, hb⟩
      unfold Ms.ag
      have HAL4 := Lib.hid (hal_new P4 #[.int .i64 0, .int .i64 0, .int .u32 0, .int .u32 0, .int .i64 0, .bool false, .slice none 0 0, .int .i64 0, .int .u32 0, .int .u32 0, .int .i64 0, .int .i64 0, .int .u32 0, .int .i64 0, .int .i64 0, .int .i64 0, .int .u32 0, .int .u64 0, .int .u64 0, .int .u64 0, .int .u64 0, .int .i64 0, .int .i64 0, .int .i64 0, .int .u32 0, .int .u32 0, .int .u8 0, .int .i64 0, .int .u32 0, .int .i64 0, .int .u32 0, .int .u32 0] 38)
      have G4a := Lib.hid (info_msg' Ms.zero pa4 pc4)
      have G4b := Lib.hid (show (#[.int .i64 0, .int .i64 0, .int .u32 0, .int .u32 0, .int .i64 0, .bool false, .slice none 0 0, .int .i64 0, .int .u32 0, .int .u32 0, .int .i64 0, .int .i64 0, .int .u32 0, .int .i64 0, .int .i64 0, .int .i64 0, .int .u32 0, .int .u64 0, .int .u64 0, .int .u64 0, .int .u64 0, .int .i64 0, .int .i64 0, .int .i64 0, .int .u32 0, .int .u32 0, .int .u8 0, .int .i64 0, .int .u32 0, .int .i64 0, .int .u32 0, .int .u32 0] : Array Value).size = (Ms.zero.cs pa4 pc4).size from rfl)
      have G4c := Lib.hid (cs_one Ms.zero pa4 pc4)
      obtain ⟨h4, hh⟩ : ∃ g, g = P4.heap.size := ⟨_, rfl⟩
      obtain ⟨N4, hN⟩ : ∃ Z, Z = (P4.alloc (.cells #[.int .i64 0, .int .i64 0, .int .u32 0, .int .u32 0, .int .i64 0, .bool false, .slice none 0 0, .int .i64 0, .int .u32 0, .int .u32 0, .int .i64 0, .int .i64 0, .int .u32 0, .int .i64 0, .int .i64 0, .int .i64 0, .int .u32 0, .int .u64 0, .int .u64 0, .int .u64 0, .int .u64 0, .int .i64 0, .int .i64 0, .int .i64 0, .int .u32 0, .int .u32 0, .int .u8 0, .int .i64 0, .int .u32 0, .int .i64 0, .int .u32 0, .int .u32 0] 38)).setRow P4.heap.size (Ms.zero.cs pa4 pc4) := ⟨_, rfl⟩
      have hbN : Below P4.heap.size P4 N4 := by rw [hN]; exact below_setRow ((Below.refl _ _).alloc (Nat.le_refl _) _) (Nat.le_refl _)
      have D4 := Lib.hid (show Below U.heap.size U N4 from D3.out.trans ((hb.trans (hbN.mono hb.size)).mono D3.out.size))
      have HNE4 := Lib.hid hN
      have HNH4 := Lib.hid hh
      clear hN hh hbN hb har
      go_upto_region 23 with ((with_reducible refine wpList_store_row rfl 38 (.tmp 10) (.tmp 118) rfl rfl P4.heap.size rfl 38 #[.int .i64 0, .int .i64 0, .int .u32 0, .int .u32 0, .int .i64 0, .bool false, .slice none 0 0, .int .i64 0, .int .u32 0, .int .u32 0, .int .i64 0, .int .i64 0, .int .u32 0, .int .i64 0, .int .i64 0, .int .i64 0, .int .u32 0, .int .u64 0, .int .u64 0, .int .u64 0, .int .u64 0, .int .i64 0, .int .i64 0, .int .i64 0, .int .u32 0, .int .u32 0, .int .u8 0, .int .i64 0, .int .u32 0, .int .i64 0, .int .u32 0, .int .u32 0] (Ms.zero.cs pa4 pc4) rfl HAL4.out G4a.out G4b.out G4c.out ?_))
      rw [← HNE4.out, ← HNH4.out]
      clear hcv
      go_wp2_with fail
      refine (HD2.out N4).mono ?_
      rintro e P5 ⟨pa5, pc5, rfl, har, hb⟩
      unfold Ms.ag
      have HAL5 := Lib.hid (hal_new P5 #[.int .i64 0, .int .i64 0, .int .u32 0, .int .u32 0, .int .i64 0, .bool false, .slice none 0 0, .int .i64 0, .int .u32 0, .int .u32 0, .int .i64 0, .int .i64 0, .int .u32 0, .int .i64 0, .int .i64 0, .int .i64 0, .int .u32 0, .int .u64 0, .int .u64 0, .int .u64 0, .int .u64 0, .int .i64 0, .int .i64 0, .int .i64 0, .int .u32 0, .int .u32 0, .int .u8 0, .int .i64 0, .int .u32 0, .int .i64 0, .int .u32 0, .int .u32 0] 38)
      have G5a := Lib.hid (info_msg' m2 pa5 pc5)
      have G5b := Lib.hid (show (#[.int .i64 0, .int .i64 0, .int .u32 0, .int .u32 0, .int .i64 0, .bool false, .slice none 0 0, .int .i64 0, .int .u32 0, .int .u32 0, .int .i64 0, .int .i64 0, .int .u32 0, .int .i64 0, .int .i64 0, .int .i64 0, .int .u32 0, .int .u64 0, .int .u64 0, .int .u64 0, .int .u64 0, .int .i64 0, .int .i64 0, .int .i64 0, .int .u32 0, .int .u32 0, .int .u8 0, .int .i64 0, .int .u32 0, .int .i64 0, .int .u32 0, .int .u32 0] : Array Value).size = (m2.cs pa5 pc5).size from rfl)
      have G5c := Lib.hid (cs_one m2 pa5 pc5)
      obtain ⟨h5, hh⟩ : ∃ g, g = P5.heap.size := ⟨_, rfl⟩
      obtain ⟨N5, hN⟩ : ∃ Z, Z = (P5.alloc (.cells #[.int .i64 0, .int .i64 0, .int .u32 0, .int .u32 0, .int .i64 0, .bool false, .slice none 0 0, .int .i64 0, .int .u32 0, .int .u32 0, .int .i64 0, .int .i64 0, .int .u32 0, .int .i64 0, .int .i64 0, .int .i64 0, .int .u32 0, .int .u64 0, .int .u64 0, .int .u64 0, .int .u64 0, .int .i64 0, .int .i64 0, .int .i64 0, .int .u32 0, .int .u32 0, .int .u8 0, .int .i64 0, .int .u32 0, .int .i64 0, .int .u32 0, .int .u32 0] 38)).setRow P5.heap.size (m2.cs pa5 pc5) := ⟨_, rfl⟩
      have hbN : Below P5.heap.size P5 N5 := by rw [hN]; exact below_setRow ((Below.refl _ _).alloc (Nat.le_refl _) _) (Nat.le_refl _)
      have D5 := Lib.hid (show Below U.heap.size U N5 from D4.out.trans ((hb.trans (hbN.mono hb.size)).mono D4.out.size))
      have HNE5 := Lib.hid hN
      have HNH5 := Lib.hid hh
      clear hN hh hbN hb har
      go_upto_region 24 with ((with_reducible refine wpList_store_row rfl 38 (.tmp 12) (.tmp 122) rfl rfl P5.heap.size rfl 38 #[.int .i64 0, .int .i64 0, .int .u32 0, .int .u32 0, .int .i64 0, .bool false, .slice none 0 0, .int .i64 0, .int .u32 0, .int .u32 0, .int .i64 0, .int .i64 0, .int .u32 0, .int .i64 0, .int .i64 0, .int .i64 0, .int .u32 0, .int .u64 0, .int .u64 0, .int .u64 0, .int .u64 0, .int .i64 0, .int .i64 0, .int .i64 0, .int .u32 0, .int .u32 0, .int .u8 0, .int .i64 0, .int .u32 0, .int .i64 0, .int .u32 0, .int .u32 0] (m2.cs pa5 pc5) rfl HAL5.out G5a.out G5b.out G5c.out ?_))
      rw [← HNE5.out, ← HNH5.out]
      go_wp2_with fail
      refine (HSL.out N5).mono ?_
      rintro e X6 ⟨rfl, hb⟩
      have D6 := Lib.hid (D5.out.trans (hb.mono D5.out.size))
      clear hb
      go_wp2_with fail
      refine (HD3.out X6).mono ?_
      rintro e P7 ⟨pa7, pc7, rfl, har, hb⟩
      unfold Ms.ag
      have HAL7 := Lib.hid (hal_new P7 #[.int .i64 0, .int .i64 0, .int .u32 0, .int .u32 0, .int .i64 0, .bool false, .slice none 0 0, .int .i64 0, .int .u32 0, .int .u32 0, .int .i64 0, .int .i64 0, .int .u32 0, .int .i64 0, .int .i64 0, .int .i64 0, .int .u32 0, .int .u64 0, .int .u64 0, .int .u64 0, .int .u64 0, .int .i64 0, .int .i64 0, .int .i64 0, .int .u32 0, .int .u32 0, .int .u8 0, .int .i64 0, .int .u32 0, .int .i64 0, .int .u32 0, .int .u32 0] 38)
      have G7a := Lib.hid (info_msg' m3 pa7 pc7)
      have G7b := Lib.hid (show (#[.int .i64 0, .int .i64 0, .int .u32 0, .int .u32 0, .int .i64 0, .bool false, .slice none 0 0, .int .i64 0, .int .u32 0, .int .u32 0, .int .i64 0, .int .i64 0, .int .u32 0, .int .i64 0, .int .i64 0, .int .i64 0, .int .u32 0, .int .u64 0, .int .u64 0, .int .u64 0, .int .u64 0, .int .i64 0, .int .i64 0, .int .i64 0, .int .u32 0, .int .u32 0, .int .u8 0, .int .i64 0, .int .u32 0, .int .i64 0, .int .u32 0, .int .u32 0] : Array Value).size = (m3.cs pa7 pc7).size from rfl)
      have G7c := Lib.hid (cs_one m3 pa7 pc7)
      obtain ⟨h7, hh⟩ : ∃ g, g = P7.heap.size := ⟨_, rfl⟩
      obtain ⟨N7, hN⟩ : ∃ Z, Z = (P7.alloc (.cells #[.int .i64 0, .int .i64 0, .int .u32 0, .int .u32 0, .int .i64 0, .bool false, .slice none 0 0, .int .i64 0, .int .u32 0, .int .u32 0, .int .i64 0, .int .i64 0, .int .u32 0, .int .i64 0, .int .i64 0, .int .i64 0, .int .u32 0, .int .u64 0, .int .u64 0, .int .u64 0, .int .u64 0, .int .i64 0, .int .i64 0, .int .i64 0, .int .u32 0, .int .u32 0, .int .u8 0, .int .i64 0, .int .u32 0, .int .i64 0, .int .u32 0, .int .u32 0] 38)).setRow P7.heap.size (m3.cs pa7 pc7) := ⟨_, rfl⟩
      have hbN : Below P7.heap.size P7 N7 := by rw [hN]; exact below_setRow ((Below.refl _ _).alloc (Nat.le_refl _) _) (Nat.le_refl _)
      have D7 := Lib.hid (show Below U.heap.size U N7 from D6.out.trans ((hb.trans (hbN.mono hb.size)).mono D6.out.size))
      have HNE7 := Lib.hid hN
      have HNH7 := Lib.hid hh
      clear hN hh hbN hb har
      go_upto_region 25 with ((with_reducible refine wpList_store_row rfl 38 (.tmp 14) (.tmp 127) rfl rfl P7.heap.size rfl 38 #[.int .i64 0, .int .i64 0, .int .u32 0, .int .u32 0, .int .i64 0, .bool false, .slice none 0 0, .int .i64 0, .int .u32 0, .int .u32 0, .int .i64 0, .int .i64 0, .int .u32 0, .int .i64 0, .int .i64 0, .int .i64 0, .int .u32 0, .int .u64 0, .int .u64 0, .int .u64 0, .int .u64 0, .int .i64 0, .int .i64 0, .int .i64 0, .int .u32 0, .int .u32 0, .int .u8 0, .int .i64 0, .int .u32 0, .int .i64 0, .int .u32 0, .int .u32 0] (m3.cs pa7 pc7) rfl HAL7.out G7a.out G7b.out G7c.out ?_))
      rw [← HNE7.out, ← HNH7.out]
      have hcv := HXS.out N7 D7.out
      go_wp2_with fail
      refine (HKC.out N7).mono ?_
      rintro e X8 ⟨rfl, hb⟩
      have D8 := Lib.hid (D7.out.trans (hb.mono D7.out.size))
      clear hb hcv
      go_wp2_with fail
      refine (HKE.out X8).mono ?_
      rintro e X9 ⟨rfl, hb⟩
      have D9 := Lib.hid (D8.out.trans (hb.mono D8.out.size))
      clear hb
      go_wp2_with fail
      refine (works_any _).mono ?_
      rintro e X10 ⟨rfl, hb⟩
      have D10 := Lib.hid (D9.out.trans (hb.mono D9.out.size))
      clear hb
      go_wp2_with fail
      go_returns
      exact ⟨rfl, HS5.out.trans (D10.out.mono HS5.out.size)⟩

end Go.Proofs.Ytickjmkkgcfkhaa
