/- Contracts of the message's Kind, of the laws' example and works. (Printed by mkmss.py.) -/
import Derived.Test.YtickjmkkgcfkhaaMsN
import Derived.Test.YtickjmkkgcfkhaaMsR
import Derived.Test.YtickjmkkgcfkhaaMsH
set_option linter.unusedSimpArgs false
set_option linter.unusedVariables false
set_option maxRecDepth 100000
namespace Go.Proofs.Ytickjmkkgcfkhaa
open Go.RowKit Go.ChangeShapes Go.WideShapes

theorem hal_new (V : World) (c : Array Value) (t : TypeId) : (V.alloc (.cells c t)).heap[V.heap.size]? = some (.cells c t (0, 0)) := heap_alloc_new _ _
def knd (s : ByteArray) : Int := if decME s = 0 then (decM s).kd else 0
set_option maxHeartbeats 1600000 in
theorem mkind_any (s : ByteArray) (W : World) (hs : s.size ≤ 140737488355000) : Calls Try.prog 17 #[.string s] W fun e W' => e = .returned (.int .i64 (knd s)) ∧ Below W.heap.size W W' := by
  have HD := Lib.hid (mdecode_any s W hs)
  obtain ⟨M, hM⟩ : ∃ M, M = decM s := ⟨_, rfl⟩
  obtain ⟨E, hE⟩ : ∃ E, E = decME s := ⟨_, rfl⟩
  have HK := Lib.hid (show knd s = if E = 0 then M.kd else 0 by rw [hE, hM]; rfl)
  rw [← hM, ← hE] at HD
  clear hM hE
  go_enter Try.func17, Try.ntmps17
  go_wp2_with fail
  refine HD.out.mono ?_
  rintro e V ⟨sa, sc, rfl, har, hb⟩
  unfold Ms.ag
  have HB := Lib.hid hb
  have HAL := Lib.hid (hal_new V #[.int .i64 0, .int .i64 0, .int .u32 0, .int .u32 0, .int .i64 0, .bool false, .slice none 0 0, .int .i64 0, .int .u32 0, .int .u32 0, .int .i64 0, .int .i64 0, .int .u32 0, .int .i64 0, .int .i64 0, .int .i64 0, .int .u32 0, .int .u64 0, .int .u64 0, .int .u64 0, .int .u64 0, .int .i64 0, .int .i64 0, .int .i64 0, .int .u32 0, .int .u32 0, .int .u8 0, .int .i64 0, .int .u32 0, .int .i64 0, .int .u32 0, .int .u32 0] 38)
  have HS2 := Lib.hid (info_msg' M sa sc)
  have HS3 := Lib.hid (show (#[.int .i64 0, .int .i64 0, .int .u32 0, .int .u32 0, .int .i64 0, .bool false, .slice none 0 0, .int .i64 0, .int .u32 0, .int .u32 0, .int .i64 0, .int .i64 0, .int .u32 0, .int .i64 0, .int .i64 0, .int .i64 0, .int .u32 0, .int .u64 0, .int .u64 0, .int .u64 0, .int .u64 0, .int .i64 0, .int .i64 0, .int .i64 0, .int .u32 0, .int .u32 0, .int .u8 0, .int .i64 0, .int .u32 0, .int .i64 0, .int .u32 0, .int .u32 0] : Array Value).size = (M.cs sa sc).size from rfl)
  have HS4 := Lib.hid (cs_one M sa sc)
  clear har hb HD
  go_upto_region 2 with ((with_reducible refine wpList_store_row rfl 38 (.tmp 3) (.tmp 8) rfl rfl V.heap.size rfl 38 #[.int .i64 0, .int .i64 0, .int .u32 0, .int .u32 0, .int .i64 0, .bool false, .slice none 0 0, .int .i64 0, .int .u32 0, .int .u32 0, .int .i64 0, .int .i64 0, .int .u32 0, .int .i64 0, .int .i64 0, .int .i64 0, .int .u32 0, .int .u64 0, .int .u64 0, .int .u64 0, .int .u64 0, .int .i64 0, .int .i64 0, .int .i64 0, .int .u32 0, .int .u32 0, .int .u8 0, .int .i64 0, .int .u32 0, .int .i64 0, .int .u32 0, .int .u32 0] (M.cs sa sc) rfl HAL.out HS2.out HS3.out HS4.out ?_))
  obtain ⟨Y, hY⟩ : ∃ Y, Y = (V.alloc (.cells #[.int .i64 0, .int .i64 0, .int .u32 0, .int .u32 0, .int .i64 0, .bool false, .slice none 0 0, .int .i64 0, .int .u32 0, .int .u32 0, .int .i64 0, .int .i64 0, .int .u32 0, .int .i64 0, .int .i64 0, .int .i64 0, .int .u32 0, .int .u64 0, .int .u64 0, .int .u64 0, .int .u64 0, .int .i64 0, .int .i64 0, .int .i64 0, .int .u32 0, .int .u32 0, .int .u8 0, .int .i64 0, .int .u32 0, .int .i64 0, .int .u32 0, .int .u32 0] 38)).setRow V.heap.size (M.cs sa sc) := ⟨_, rfl⟩
  have hgY : BoxM V.heap.size M sa sc Y := by rw [hY]; exact setRow_heap _ _ _ _ _ _ HAL.out
  have hbY : Below V.heap.size V Y := by rw [hY]; exact below_setRow ((Below.refl _ _).alloc (Nat.le_refl _) _) (Nat.le_refl _)
  have x0 : Y.cell? ⟨V.heap.size, 0, none⟩ = some (.int .i64 M.kd) := hgY.cell rfl
  have HBY := Lib.hid (HB.out.trans (hbY.mono HB.out.size))
  rw [← hY]
  clear hY hgY hbY
  by_cases h : E = 0
  · have HR := Lib.hid (show knd s = M.kd by rw [HK.out, if_pos h])
    subst h
    go_wp2_with fail
    go_returns
    exact ⟨by rw [HR.out]; rfl, HBY.out⟩
  · have HR := Lib.hid (show knd s = 0 by rw [HK.out, if_neg h])
    have e1 : (E == 0) = false := by rw [beq_eq_false_iff_ne]; exact h
    have e2 : (E != 0) = true := by rw [bne_iff_ne]; exact h
    clear h
    go_wp2_with fail
    go_returns
    exact ⟨by rw [HR.out]; rfl, HBY.out⟩

theorem results_cell1 {P : Program} {fn : Func} {a : Tmp} {t : TypeId} {w : World} {tmps cs : Array Value} {g : Nat} {d : TypeDesc} (hres : fn.results = #[.cell a t]) (ha : tmps.getD a undef = .pointer (some ⟨g, 0, none⟩))
    (hg : w.heap[g]? = some (.cells cs t (0, 0))) (hu : P.underlying t = some d) (hd : d.isRow = true) (hi : (P.info? t).map (·.size) = some cs.toList.length) : (results fn tmps).run P w = .ok (.agg cs) w := by
  have hl := run_loadVar_cs (P := P) (w := w) t ⟨g, 0, none⟩ cs.toList d (block_cells hg) hu hd hi
  rw [Array.toArray_toList] at hl
  have ha' : tmps[a]?.getD undef = .pointer (some ⟨g, 0, none⟩) := by simpa using ha
  unfold results
  rw [hres]
  simp [ha', asAddr, hl]
def wishM : Ms := { Ms.zero with kd := 4, dst := 7, hops := 15, wi := ⟨2, 1, 3, 129⟩ }
theorem wish_ok : wishM.ok := by simp [wishM, Ms.ok, Ms.zero, Rc.ok, Rc.zero, St.ok, Hd.ok, Hd.zero, Bt.ok, Bt.zero, Wi.ok, Ak.ok, Ak.zero, I64]
theorem wish_chk : wishM.chk = true := by decide +kernel
theorem wish_body : wishM.body = [4, 7, 15, 2, 0, 0, 0, 1, 0, 0, 0, 3, 129] := by decide +kernel
theorem wish_size : wishM.enc.size = 15 := by
  have h := (menc_open wishM).2.2
  have : wishM.lay.length = 12 := by decide +kernel
  omega
theorem wish_front : wishM.enc.extract 0 13 = ⟨#[4, 7, 15, 2, 0, 0, 0, 1, 0, 0, 0, 3, 129]⟩ := by
  apply ByteArray.ext
  apply Array.toList_inj.1
  rw [ByteArray.data_extract, Array.toList_extract, List.extract]
  show ((wishM.enc.data.toList.drop 0).take 13) = _
  unfold Ms.enc
  rw [sealB_list, bs_toList, wish_body]
  rfl
set_option maxHeartbeats 1600000 in
theorem wish_any (W : World) : Calls Try.prog 18 #[] W fun e W' => e = .returned (.agg #[.int .i64 4, .int .i64 0, .int .u32 0, .int .u32 0, .int .i64 0, .bool false, .slice none 0 0, .int .i64 0, .int .u32 0, .int .u32 0, .int .i64 0, .int .i64 0, .int .u32 0, .int .i64 0, .int .i64 0, .int .i64 0, .int .u32 0, .int .u64 0, .int .u64 0, .int .u64 0, .int .u64 0, .int .i64 7, .int .i64 15, .int .i64 2, .int .u32 1, .int .u32 3, .int .u8 129, .int .i64 0, .int .u32 0, .int .i64 0, .int .u32 0, .int .u32 0]) ∧ Below W.heap.size W W' := by
  have HAL := Lib.hid (hal_new W #[.int .i64 0, .int .i64 0, .int .u32 0, .int .u32 0, .int .i64 0, .bool false, .slice none 0 0, .int .i64 0, .int .u32 0, .int .u32 0, .int .i64 0, .int .i64 0, .int .u32 0, .int .i64 0, .int .i64 0, .int .i64 0, .int .u32 0, .int .u64 0, .int .u64 0, .int .u64 0, .int .u64 0, .int .i64 0, .int .i64 0, .int .i64 0, .int .u32 0, .int .u32 0, .int .u8 0, .int .i64 0, .int .u32 0, .int .i64 0, .int .u32 0, .int .u32 0] 38)
  have HS2 := Lib.hid (show (Try.prog.info? 38).map (·.size) = some (#[.int .i64 4, .int .i64 0, .int .u32 0, .int .u32 0, .int .i64 0, .bool false, .slice none 0 0, .int .i64 0, .int .u32 0, .int .u32 0, .int .i64 0, .int .i64 0, .int .u32 0, .int .i64 0, .int .i64 0, .int .i64 0, .int .u32 0, .int .u64 0, .int .u64 0, .int .u64 0, .int .u64 0, .int .i64 7, .int .i64 15, .int .i64 2, .int .u32 1, .int .u32 3, .int .u8 129, .int .i64 0, .int .u32 0, .int .i64 0, .int .u32 0, .int .u32 0] : Array Value).size from info_msg' wishM none 0)
  have HS3 := Lib.hid (show (#[.int .i64 0, .int .i64 0, .int .u32 0, .int .u32 0, .int .i64 0, .bool false, .slice none 0 0, .int .i64 0, .int .u32 0, .int .u32 0, .int .i64 0, .int .i64 0, .int .u32 0, .int .i64 0, .int .i64 0, .int .i64 0, .int .u32 0, .int .u64 0, .int .u64 0, .int .u64 0, .int .u64 0, .int .i64 0, .int .i64 0, .int .i64 0, .int .u32 0, .int .u32 0, .int .u8 0, .int .i64 0, .int .u32 0, .int .i64 0, .int .u32 0, .int .u32 0] : Array Value).size = (#[.int .i64 4, .int .i64 0, .int .u32 0, .int .u32 0, .int .i64 0, .bool false, .slice none 0 0, .int .i64 0, .int .u32 0, .int .u32 0, .int .i64 0, .int .i64 0, .int .u32 0, .int .i64 0, .int .i64 0, .int .i64 0, .int .u32 0, .int .u64 0, .int .u64 0, .int .u64 0, .int .u64 0, .int .i64 7, .int .i64 15, .int .i64 2, .int .u32 1, .int .u32 3, .int .u8 129, .int .i64 0, .int .u32 0, .int .i64 0, .int .u32 0, .int .u32 0] : Array Value).size from rfl)
  have HS4 := Lib.hid (show (#[.int .i64 4, .int .i64 0, .int .u32 0, .int .u32 0, .int .i64 0, .bool false, .slice none 0 0, .int .i64 0, .int .u32 0, .int .u32 0, .int .i64 0, .int .i64 0, .int .u32 0, .int .i64 0, .int .i64 0, .int .i64 0, .int .u32 0, .int .u64 0, .int .u64 0, .int .u64 0, .int .u64 0, .int .i64 7, .int .i64 15, .int .i64 2, .int .u32 1, .int .u32 3, .int .u8 129, .int .i64 0, .int .u32 0, .int .i64 0, .int .u32 0, .int .u32 0] : Array Value).all (·.oneCell') = true from cs_one wishM none 0)
  go_enter Try.func18, Try.ntmps18
  go_wp2_with ((with_reducible refine wpList_store_row rfl 38 (.tmp 0) (.tmp 2) rfl rfl W.heap.size rfl 38 #[.int .i64 0, .int .i64 0, .int .u32 0, .int .u32 0, .int .i64 0, .bool false, .slice none 0 0, .int .i64 0, .int .u32 0, .int .u32 0, .int .i64 0, .int .i64 0, .int .u32 0, .int .i64 0, .int .i64 0, .int .i64 0, .int .u32 0, .int .u64 0, .int .u64 0, .int .u64 0, .int .u64 0, .int .i64 0, .int .i64 0, .int .i64 0, .int .u32 0, .int .u32 0, .int .u8 0, .int .i64 0, .int .u32 0, .int .i64 0, .int .u32 0, .int .u32 0] #[.int .i64 4, .int .i64 0, .int .u32 0, .int .u32 0, .int .i64 0, .bool false, .slice none 0 0, .int .i64 0, .int .u32 0, .int .u32 0, .int .i64 0, .int .i64 0, .int .u32 0, .int .i64 0, .int .i64 0, .int .i64 0, .int .u32 0, .int .u64 0, .int .u64 0, .int .u64 0, .int .u64 0, .int .i64 7, .int .i64 15, .int .i64 2, .int .u32 1, .int .u32 3, .int .u8 129, .int .i64 0, .int .u32 0, .int .i64 0, .int .u32 0, .int .u32 0] rfl HAL.out HS2.out HS3.out HS4.out ?_))
  (try simp only [Exit.inBlock, Exit.then])
  exact bodyPost_ret (results_cell1 rfl rfl (setRow_heap _ _ _ _ _ _ HAL.out) Try.underlying38 rfl (info_msg wishM none 0)) rfl ⟨rfl, below_setRow ((Below.refl _ _).alloc (Nat.le_refl _) _) (Nat.le_refl _)⟩

theorem adjs_nil (W : World) : AdjsIn W none [] := fun i hi => absurd hi (by simp)
theorem wish_enc (W : World) : Calls Try.prog 9 #[.agg #[.int .i64 4, .int .i64 0, .int .u32 0, .int .u32 0, .int .i64 0, .bool false, .slice none 0 0, .int .i64 0, .int .u32 0, .int .u32 0, .int .i64 0, .int .i64 0, .int .u32 0, .int .i64 0, .int .i64 0, .int .i64 0, .int .u32 0, .int .u64 0, .int .u64 0, .int .u64 0, .int .u64 0, .int .i64 7, .int .i64 15, .int .i64 2, .int .u32 1, .int .u32 3, .int .u8 129, .int .i64 0, .int .u32 0, .int .i64 0, .int .u32 0, .int .u32 0]] W fun e W' => e = .returned (.tuple #[.string wishM.enc, .int .i64 0]) ∧ Below W.heap.size W W' := by
  have h := mencode_any wishM none 0 W wish_ok (adjs_nil W) (by simp [wishM, Ms.zero, Rc.zero])
  unfold Ms.encS Ms.err at h
  rw [wish_chk, if_pos rfl, if_pos rfl] at h
  exact h
theorem wish_dec (W : World) : Calls Try.prog 16 #[.string wishM.enc] W (DecM W wishM 0) := by
  have h := mdecode_any wishM.enc W (by rw [wish_size]; decide)
  rw [(decM_enc wish_ok wish_chk).1, (decM_enc wish_ok wish_chk).2] at h
  exact h
set_option maxHeartbeats 6400000 in
theorem works_any (W : World) : Calls Try.prog 14 #[] W fun e W' => e = .returned (.bool true) ∧ Below W.heap.size W W' := by
  have HWI := Lib.hid wish_any
  obtain ⟨E, hE⟩ : ∃ E, E = wishM.enc := ⟨_, rfl⟩
  have HEN := Lib.hid wish_enc
  have HDE := Lib.hid wish_dec
  rw [← hE] at HEN HDE
  have hsz : E.size = 15 := by rw [hE]; exact wish_size
  have hfr : E.extract 0 13 = ⟨#[4, 7, 15, 2, 0, 0, 0, 1, 0, 0, 0, 3, 129]⟩ := by rw [hE]; exact wish_front
  clear hE
  go_enter Try.func14, Try.ntmps14
  go_wp2_with fail
  refine (HWI.out W).mono ?_
  rintro e V1 ⟨rfl, hb⟩
  have HB1 := Lib.hid hb
  clear hb
  go_wp2_with fail
  refine (HEN.out V1).mono ?_
  rintro e V2 ⟨rfl, hb⟩
  have HB2 := Lib.hid (HB1.out.trans (hb.mono HB1.out.size))
  clear hb
  go_wp2_with fail
  refine (HDE.out V2).mono ?_
  rintro e V ⟨sa, sc, rfl, har, hb⟩
  unfold Ms.ag
  have HB := Lib.hid (HB2.out.trans (hb.mono HB2.out.size))
  have HAL := Lib.hid (hal_new V #[.int .i64 0, .int .i64 0, .int .u32 0, .int .u32 0, .int .i64 0, .bool false, .slice none 0 0, .int .i64 0, .int .u32 0, .int .u32 0, .int .i64 0, .int .i64 0, .int .u32 0, .int .i64 0, .int .i64 0, .int .i64 0, .int .u32 0, .int .u64 0, .int .u64 0, .int .u64 0, .int .u64 0, .int .i64 0, .int .i64 0, .int .i64 0, .int .u32 0, .int .u32 0, .int .u8 0, .int .i64 0, .int .u32 0, .int .i64 0, .int .u32 0, .int .u32 0] 38)
  have HS2 := Lib.hid (info_msg' wishM sa sc)
  have HS3 := Lib.hid (show (#[.int .i64 0, .int .i64 0, .int .u32 0, .int .u32 0, .int .i64 0, .bool false, .slice none 0 0, .int .i64 0, .int .u32 0, .int .u32 0, .int .i64 0, .int .i64 0, .int .u32 0, .int .i64 0, .int .i64 0, .int .i64 0, .int .u32 0, .int .u64 0, .int .u64 0, .int .u64 0, .int .u64 0, .int .i64 0, .int .i64 0, .int .i64 0, .int .u32 0, .int .u32 0, .int .u8 0, .int .i64 0, .int .u32 0, .int .i64 0, .int .u32 0, .int .u32 0] : Array Value).size = (wishM.cs sa sc).size from rfl)
  have HS4 := Lib.hid (cs_one wishM sa sc)
  clear har hb
  go_wp2_with ((with_reducible refine wpList_store_row rfl 38 (.tmp 3) (.tmp 13) rfl rfl V.heap.size rfl 38 #[.int .i64 0, .int .i64 0, .int .u32 0, .int .u32 0, .int .i64 0, .bool false, .slice none 0 0, .int .i64 0, .int .u32 0, .int .u32 0, .int .i64 0, .int .i64 0, .int .u32 0, .int .i64 0, .int .i64 0, .int .i64 0, .int .u32 0, .int .u64 0, .int .u64 0, .int .u64 0, .int .u64 0, .int .i64 0, .int .i64 0, .int .i64 0, .int .u32 0, .int .u32 0, .int .u8 0, .int .i64 0, .int .u32 0, .int .i64 0, .int .u32 0, .int .u32 0] (wishM.cs sa sc) rfl HAL.out HS2.out HS3.out HS4.out ?_))
  obtain ⟨Y, hY⟩ : ∃ Y, Y = (V.alloc (.cells #[.int .i64 0, .int .i64 0, .int .u32 0, .int .u32 0, .int .i64 0, .bool false, .slice none 0 0, .int .i64 0, .int .u32 0, .int .u32 0, .int .i64 0, .int .i64 0, .int .u32 0, .int .i64 0, .int .i64 0, .int .i64 0, .int .u32 0, .int .u64 0, .int .u64 0, .int .u64 0, .int .u64 0, .int .i64 0, .int .i64 0, .int .i64 0, .int .u32 0, .int .u32 0, .int .u8 0, .int .i64 0, .int .u32 0, .int .i64 0, .int .u32 0, .int .u32 0] 38)).setRow V.heap.size (wishM.cs sa sc) := ⟨_, rfl⟩
  have hgY : BoxM V.heap.size wishM sa sc Y := by rw [hY]; exact setRow_heap _ _ _ _ _ _ HAL.out
  have hbY : Below V.heap.size V Y := by rw [hY]; exact below_setRow ((Below.refl _ _).alloc (Nat.le_refl _) _) (Nat.le_refl _)
  have HBY := Lib.hid (HB.out.trans (hbY.mono HB.out.size))
  have HGY := Lib.hid hgY
  have X0 := Lib.hid (show ∀ Z, Below Y.heap.size Y Z → Z.cell? ⟨V.heap.size, 0, none⟩ = some (.int .i64 4) from fun Z hZ => (HGY.out.later hZ).cell rfl)
  have X21 := Lib.hid (show ∀ Z, Below Y.heap.size Y Z → Z.cell? ⟨V.heap.size, 21, none⟩ = some (.int .i64 7) from fun Z hZ => (HGY.out.later hZ).cell rfl)
  have X23 := Lib.hid (show ∀ Z, Below Y.heap.size Y Z → Z.cell? ⟨V.heap.size, 23, none⟩ = some (.int .i64 2) from fun Z hZ => (HGY.out.later hZ).cell rfl)
  have X24 := Lib.hid (show ∀ Z, Below Y.heap.size Y Z → Z.cell? ⟨V.heap.size, 24, none⟩ = some (.int .u32 1) from fun Z hZ => (HGY.out.later hZ).cell rfl)
  have X25 := Lib.hid (show ∀ Z, Below Y.heap.size Y Z → Z.cell? ⟨V.heap.size, 25, none⟩ = some (.int .u32 3) from fun Z hZ => (HGY.out.later hZ).cell rfl)
  have X26 := Lib.hid (show ∀ Z, Below Y.heap.size Y Z → Z.cell? ⟨V.heap.size, 26, none⟩ = some (.int .u8 129) from fun Z hZ => (HGY.out.later hZ).cell rfl)
  rw [← hY]
  clear hY hgY hbY
  obtain ⟨U, hU⟩ : ∃ U, U = Y.drew := ⟨_, rfl⟩
  have HU := Lib.hid (show Below Y.heap.size Y U by rw [hU]; exact drew_below _)
  refine wp_region_ord [(0, true), (1, true), (2, true), (3, true), (4, true), (5, true), (6, true), (7, true), (8, true), (9, true), (10, true), (11, true), (12, true), (13, true), (14, true), (15, true), (16, true), (17, true), (18, true), (19, true), (20, true), (21, true), (22, true), (23, true), (24, true), (25, true), (26, true), (27, true), (28, true), (29, false), (30, true), (31, true), (32, true), (33, true)] (fun Z => Below Y.heap.size Y Z) (by kernel_rfl) (by kernel_rfl) (by decide) (by kernel_rfl) (fun d _ _ _ _ h => by cases d <;> first | exact h | exact h.trans ((drew_below _).mono h.size)) (by rw [← hU]; exact HU.out) ?_
  rw [← hU]
  clear hU
  iterate 29 ((apply wpOrd_take rfl rfl (by kernel_rfl); (intro Z hZ; have y0 := X0.out Z hZ; have y21 := X21.out Z hZ; have y23 := X23.out Z hZ; have y24 := X24.out Z hZ; have y25 := X25.out Z hZ; have y26 := X26.out Z hZ; go_simp; rfl)); (try simp only [List.setIfInBounds_toArray, List.set_cons_succ, List.set_cons_zero]))
  apply wpOrd_do rfl (by kernel_rfl)
  intro K hK
  go_simp
  refine (HWI.out U).mono ?_
  rintro e Z ⟨rfl, hb⟩
  have HZ := Lib.hid (HU.out.trans (hb.mono HU.out.size))
  refine hK _ _ HZ.out ?_
  clear hK K hb
  iterate 4 ((apply wpOrd_take rfl rfl (by kernel_rfl); (intro Z hZ; go_simp; rfl)); (try simp only [List.setIfInBounds_toArray, List.set_cons_succ, List.set_cons_zero]))
  refine wpOrd_nil ?_
  go_wp2_with fail
  go_returns
  exact ⟨rfl, HBY.out.trans (HZ.out.mono HBY.out.size)⟩

end Go.Proofs.Ytickjmkkgcfkhaa
