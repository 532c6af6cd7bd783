/- Contract of the reference's Decode and Kind of a message. (Printed by mkmrn.py.) -/
import Derived.Test.YtickjmkkgcfkhaaGreatMsRB
import Derived.Test.YtickjmkkgcfkhaaGreatMsS
import Derived.Test.YtickjmkkgcfkhaaGreatRecN
import Derived.Test.YtickjmkkgcfkhaaGreatHdRG2
set_option linter.unusedSimpArgs false
set_option linter.unusedVariables false
set_option maxRecDepth 100000
set_option maxRecDepth 100000
namespace Go.Proofs.YtickjmkkgcfkhaaGreat
open Go.RowKit Go.ChangeShapes Go.WideShapes

theorem wpList_load_csg {P : Program} {w : World} {ops : Array Oper} {rest : List Oper} {o : Oper} {a : Act} {Q : Exit → Act → World → Prop} (hw : Region.wanted o (yielded ops a.tmps) = true) (ty : TypeId) (x : Operand) (ho : o.op = .load ty x)
    (ad : Addr) (hx : a.eval x = .pointer (some ad)) (cs : List Value) (d : TypeDesc) (hc : ∀ j v, cs[j]? = some v → w.cell? (ad.add j) = some v)
    (hu : P.underlying ty = some d) (hd : d.isRow = true) (hi : (P.info? ty).map (·.size) = some cs.length)
    (h : wpList P ops Q rest (a.put o.dst (.agg cs.toArray)) w) : wpList P ops Q (o :: rest) a w :=
  wpList_step fun _ hK => by
    rw [if_pos hw]
    have hr := run_load_cs (P := P) (w := w) o a ty x ho ad hx cs d hc hu hd hi
    unfold Oper.wp
    rw [hr]
    exact hK _ _ h
theorem take4 {l : List UInt8} (h : 4 ≤ l.length) : l.take 4 = [l[0], l[1], l[2], l[3]] := by
  match l, h with
  | a :: b :: c :: d :: r, _ => rfl
theorem seg_drop (s : ByteArray) (a n : Nat) : seg (s.extract a s.size).data.toList 0 n = seg s.data.toList a n := by
  have e : (s.extract a s.size).data.toList = s.data.toList.drop a := by
    rw [ByteArray.data_extract, Array.toList_extract, List.extract]
    rw [List.take_of_length_le]
    rw [List.length_drop, size_len]
    exact Nat.le_refl _
  rw [e]
  unfold seg
  rw [List.drop_zero]
theorem number19_any (s : ByteArray) (W : World) (hs : 4 ≤ s.size) : Calls Tryz.prog 17 #[.string s] W fun e W' => e = .returned (.int .u32 (seg s.data.toList 0 4 : Nat)) ∧ Below W.heap.size W W' := by
  have h0 : 0 < s.size := by omega
  have h1 : 1 < s.size := by omega
  have h2 : 2 < s.size := by omega
  have h3 : 3 < s.size := by omega
  have i0 : (0 : Int) < (s.size : Int) := by omega
  have i1 : (1 : Int) < (s.size : Int) := by omega
  have i2 : (2 : Int) < (s.size : Int) := by omega
  have i3 : (3 : Int) < (s.size : Int) := by omega
  have HG := Lib.hid (num4_go s[0] s[1] s[2] s[3])
  have HL := Lib.hid (show seg s.data.toList 0 4 = beVal [s[0], s[1], s[2], s[3]] by
    have hl : 4 ≤ s.data.toList.length := by rw [size_eq]; exact hs
    unfold seg
    rw [List.drop_zero, take4 hl]
    rfl)
  clear hs
  go_enter Tryz.func17, Tryz.ntmps17
  go_wp2_with fail
  refine wp_region_ord [(0, true), (1, true), (2, true), (3, true), (4, true), (5, true), (6, true), (7, true), (8, true), (9, true), (10, true), (11, true), (12, true), (13, true), (14, true), (15, true), (16, true), (17, true), (18, true)] (fun _ => True) (by kernel_rfl) (by kernel_rfl) (by decide) (by kernel_rfl) (fun d _ _ _ _ h => by cases d <;> exact h) trivial ?_
  iterate 19 ((apply wpOrd_take rfl rfl (by kernel_rfl); (intro V hV; go_simp; rfl)); (try simp only [List.setIfInBounds_toArray, List.set_cons_succ, List.set_cons_zero]))
  refine wpOrd_nil ?_
  go_wp2_with fail
  go_returns
  refine ⟨?_, (Below.refl _ _).drew⟩
  rw [HL.out, ← HG.out]
  rfl
theorem number_at (s : ByteArray) (a : Nat) (W : World) (hs : a + 4 ≤ s.size) (v : Nat) (hv : v = seg s.data.toList a 4) : Calls Tryz.prog 17 #[.string (s.extract a s.size)] W fun e W' => e = .returned (.int .u32 v) ∧ Below W.heap.size W W' := by
  have h := number19_any (s.extract a s.size) W (by rw [ByteArray.size_extract]; omega)
  rw [seg_drop, ← hv] at h
  exact h
set_option maxHeartbeats 3200000 in
theorem rmdec_long (s : ByteArray) (W : World) (h : 512 < s.size) (hs : s.size ≤ 140737488355000) : Calls Tryz.prog 5 #[.string s] W (DecM W (decM s) (decME s)) := by
  have he : decME s = 3 := if_pos h
  have HE := Lib.hid (show decM s = Ms.zero ∧ decME s = 3 from ⟨by unfold decM; rw [he]; rfl, he⟩)
  rw [show decM s = Ms.zero from HE.out.1, show decME s = 3 from HE.out.2]
  obtain ⟨W1, hW1⟩ : ∃ W1, W1 = W.alloc (.cells #[.int .i64 0, .int .i64 0, .int .u32 0, .int .u32 0, .int .i64 0, .bool false, .slice none 0 0, .int .i64 0, .int .u32 0, .int .u32 0, .int .i64 0, .int .i64 0, .int .u32 0, .int .i64 0, .int .i64 0, .int .i64 0, .int .u32 0, .int .u64 0, .int .u64 0, .int .u64 0, .int .u64 0, .int .i64 0, .int .i64 0, .int .i64 0, .int .u32 0, .int .u32 0, .int .u8 0, .int .i64 0, .int .u32 0, .int .i64 0, .int .u32 0, .int .u32 0] 38) := ⟨_, rfl⟩
  have hb1 : Below W.heap.size W W1 := by rw [hW1]; exact (Below.refl _ _).alloc (Nat.le_refl _) _
  have hbx : BoxM W.heap.size Ms.zero none 0 W1 := by rw [hW1]; exact heap_alloc_new _ _
  have HBX := Lib.hid hbx
  have HBC := Lib.hid (show W1.heap[W.heap.size]? = some (.cells (Ms.zero.cs none 0) 38 (0, 0)) from hbx)
  have HSS := Lib.hid (show (Ms.zero.cs none 0).size = (#[.int .i64 0, .int .i64 0, .int .u32 0, .int .u32 0, .int .i64 0, .bool false, .slice none 0 0, .int .i64 0, .int .u32 0, .int .u32 0, .int .i64 0, .int .i64 0, .int .u32 0, .int .i64 0, .int .i64 0, .int .i64 0, .int .u32 0, .int .u64 0, .int .u64 0, .int .u64 0, .int .u64 0, .int .i64 0, .int .i64 0, .int .i64 0, .int .u32 0, .int .u32 0, .int .u8 0, .int .i64 0, .int .u32 0, .int .i64 0, .int .u32 0, .int .u32 0] : Array Value).size from rfl)
  have HW1 := Lib.hid hW1
  have HB1 := Lib.hid hb1
  have d1 : decide (512 < (s.size : Int)) = true := decide_eq_true (by omega)
  have hn : s.size ≤ 140737488355000 := hs
  clear hW1 hb1 hbx he
  go_enter Tryz.func5, Tryz.ntmps5
  go_upto_region 1 with fail
  rw [← HW1.out]
  go_wp2_with ((with_reducible refine wpList_store_row rfl 38 (.tmp 2) (.tmp 10) rfl rfl W.heap.size rfl 38 (Ms.zero.cs none 0) #[.int .i64 0, .int .i64 0, .int .u32 0, .int .u32 0, .int .i64 0, .bool false, .slice none 0 0, .int .i64 0, .int .u32 0, .int .u32 0, .int .i64 0, .int .i64 0, .int .u32 0, .int .i64 0, .int .i64 0, .int .i64 0, .int .u32 0, .int .u64 0, .int .u64 0, .int .u64 0, .int .u64 0, .int .i64 0, .int .i64 0, .int .i64 0, .int .u32 0, .int .u32 0, .int .u8 0, .int .i64 0, .int .u32 0, .int .i64 0, .int .u32 0, .int .u32 0] rfl HBC.out info_zero HSS.out zero_one ?_))
  (try simp only [Exit.inBlock, Exit.then])
  exact bodyPost_ret (v := .tuple #[.agg (Ms.zero.cs none 0), .int .i64 3]) (results_cell rfl rfl rfl (box_setRow (n := Ms.zero) HBX.out) Tryz.underlying38 rfl (info_msg Ms.zero none 0)) rfl ⟨none, 0, rfl, arow_nil _ _, below_setRow HB1.out (Nat.le_refl _)⟩
set_option maxHeartbeats 3200000 in
theorem rmdec_short (s : ByteArray) (W : World) (h : s.size < 3) : Calls Tryz.prog 5 #[.string s] W (DecM W (decM s) (decME s)) := by
  have he : decME s = 4 := (if_neg (by omega)).trans (if_pos h)
  have HE := Lib.hid (show decM s = Ms.zero ∧ decME s = 4 from ⟨by unfold decM; rw [he]; rfl, he⟩)
  rw [show decM s = Ms.zero from HE.out.1, show decME s = 4 from HE.out.2]
  obtain ⟨W1, hW1⟩ : ∃ W1, W1 = W.alloc (.cells #[.int .i64 0, .int .i64 0, .int .u32 0, .int .u32 0, .int .i64 0, .bool false, .slice none 0 0, .int .i64 0, .int .u32 0, .int .u32 0, .int .i64 0, .int .i64 0, .int .u32 0, .int .i64 0, .int .i64 0, .int .i64 0, .int .u32 0, .int .u64 0, .int .u64 0, .int .u64 0, .int .u64 0, .int .i64 0, .int .i64 0, .int .i64 0, .int .u32 0, .int .u32 0, .int .u8 0, .int .i64 0, .int .u32 0, .int .i64 0, .int .u32 0, .int .u32 0] 38) := ⟨_, rfl⟩
  have hb1 : Below W.heap.size W W1 := by rw [hW1]; exact (Below.refl _ _).alloc (Nat.le_refl _) _
  have hbx : BoxM W.heap.size Ms.zero none 0 W1 := by rw [hW1]; exact heap_alloc_new _ _
  have HBX := Lib.hid hbx
  have HBC := Lib.hid (show W1.heap[W.heap.size]? = some (.cells (Ms.zero.cs none 0) 38 (0, 0)) from hbx)
  have HSS := Lib.hid (show (Ms.zero.cs none 0).size = (#[.int .i64 0, .int .i64 0, .int .u32 0, .int .u32 0, .int .i64 0, .bool false, .slice none 0 0, .int .i64 0, .int .u32 0, .int .u32 0, .int .i64 0, .int .i64 0, .int .u32 0, .int .i64 0, .int .i64 0, .int .i64 0, .int .u32 0, .int .u64 0, .int .u64 0, .int .u64 0, .int .u64 0, .int .i64 0, .int .i64 0, .int .i64 0, .int .u32 0, .int .u32 0, .int .u8 0, .int .i64 0, .int .u32 0, .int .i64 0, .int .u32 0, .int .u32 0] : Array Value).size from rfl)
  have HW1 := Lib.hid hW1
  have HB1 := Lib.hid hb1
  have d1 : decide (512 < (s.size : Int)) = false := decide_eq_false (by omega)
  have d2 : decide ((s.size : Int) < 3) = true := decide_eq_true (by omega)
  clear hW1 hb1 hbx he
  go_enter Tryz.func5, Tryz.ntmps5
  go_upto_region 1 with fail
  rw [← HW1.out]
  go_wp2_with ((with_reducible refine wpList_store_row rfl 38 (.tmp 2) (.tmp 14) rfl rfl W.heap.size rfl 38 (Ms.zero.cs none 0) #[.int .i64 0, .int .i64 0, .int .u32 0, .int .u32 0, .int .i64 0, .bool false, .slice none 0 0, .int .i64 0, .int .u32 0, .int .u32 0, .int .i64 0, .int .i64 0, .int .u32 0, .int .i64 0, .int .i64 0, .int .i64 0, .int .u32 0, .int .u64 0, .int .u64 0, .int .u64 0, .int .u64 0, .int .i64 0, .int .i64 0, .int .i64 0, .int .u32 0, .int .u32 0, .int .u8 0, .int .i64 0, .int .u32 0, .int .i64 0, .int .u32 0, .int .u32 0] rfl HBC.out info_zero HSS.out zero_one ?_))
  (try simp only [Exit.inBlock, Exit.then])
  exact bodyPost_ret (v := .tuple #[.agg (Ms.zero.cs none 0), .int .i64 4]) (results_cell rfl rfl rfl (box_setRow (n := Ms.zero) HBX.out) Tryz.underlying38 rfl (info_msg Ms.zero none 0)) rfl ⟨none, 0, rfl, arow_nil _ _, below_setRow HB1.out (Nat.le_refl _)⟩
set_option maxHeartbeats 3200000 in
theorem rmdec_sum (s : ByteArray) (W : World) (h1 : 3 ≤ s.size) (h2 : s.size ≤ 512) (h : openE s ≠ 0) : Calls Tryz.prog 5 #[.string s] W (DecM W (decM s) (decME s)) := by
  have he : decME s = (openE s) := (if_neg (by omega)).trans ((if_neg (by omega)).trans (if_neg h))
  have HE := Lib.hid (show decM s = Ms.zero ∧ decME s = (openE s) from ⟨by unfold decM; rw [he, if_neg h], he⟩)
  rw [show decM s = Ms.zero from HE.out.1, show decME s = (openE s) from HE.out.2]
  obtain ⟨W1, hW1⟩ : ∃ W1, W1 = W.alloc (.cells #[.int .i64 0, .int .i64 0, .int .u32 0, .int .u32 0, .int .i64 0, .bool false, .slice none 0 0, .int .i64 0, .int .u32 0, .int .u32 0, .int .i64 0, .int .i64 0, .int .u32 0, .int .i64 0, .int .i64 0, .int .i64 0, .int .u32 0, .int .u64 0, .int .u64 0, .int .u64 0, .int .u64 0, .int .i64 0, .int .i64 0, .int .i64 0, .int .u32 0, .int .u32 0, .int .u8 0, .int .i64 0, .int .u32 0, .int .i64 0, .int .u32 0, .int .u32 0] 38) := ⟨_, rfl⟩
  have hb1 : Below W.heap.size W W1 := by rw [hW1]; exact (Below.refl _ _).alloc (Nat.le_refl _) _
  have hbx : BoxM W.heap.size Ms.zero none 0 W1 := by rw [hW1]; exact heap_alloc_new _ _
  have HBX := Lib.hid hbx
  have HBC := Lib.hid (show W1.heap[W.heap.size]? = some (.cells (Ms.zero.cs none 0) 38 (0, 0)) from hbx)
  have HSS := Lib.hid (show (Ms.zero.cs none 0).size = (#[.int .i64 0, .int .i64 0, .int .u32 0, .int .u32 0, .int .i64 0, .bool false, .slice none 0 0, .int .i64 0, .int .u32 0, .int .u32 0, .int .i64 0, .int .i64 0, .int .u32 0, .int .i64 0, .int .i64 0, .int .i64 0, .int .u32 0, .int .u64 0, .int .u64 0, .int .u64 0, .int .u64 0, .int .i64 0, .int .i64 0, .int .i64 0, .int .u32 0, .int .u32 0, .int .u8 0, .int .i64 0, .int .u32 0, .int .i64 0, .int .u32 0, .int .u32 0] : Array Value).size from rfl)
  have HW1 := Lib.hid hW1
  have HB1 := Lib.hid hb1
  have hs2 : ¬ 512 < s.size := by omega
  have hs3 : ¬ s.size < 3 := by omega
  have d1 : decide (512 < (s.size : Int)) = false := decide_eq_false (by omega)
  have d2 : decide ((s.size : Int) < 3) = false := decide_eq_false (by omega)
  obtain ⟨os, hos⟩ : ∃ o, o = openS s := ⟨_, rfl⟩
  obtain ⟨oe, hoe⟩ : ∃ o, o = openE s := ⟨_, rfl⟩
  have HOS := Lib.hid hos
  have HOE := Lib.hid hoe
  have HOP := Lib.hid (ropen_any s W1 (by omega))
  have e1 : (oe == 0) = false := by rw [beq_eq_false_iff_ne, hoe]; exact h
  have e2 : (oe != 0) = true := by rw [bne_iff_ne, hoe]; exact h
  rw [show openE s = oe from hoe.symm]
  clear hW1 hb1 hbx he hos hoe h
  go_enter Tryz.func5, Tryz.ntmps5
  go_upto_region 1 with fail
  rw [← HW1.out]
  go_wp2_with fail
  refine HOP.out.mono ?_
  rintro e V ⟨rfl, hb⟩
  rw [← HOS.out, ← HOE.out]
  have HBC1 := Lib.hid (show V.heap[W.heap.size]? = some (.cells (Ms.zero.cs none 0) 38 (0, 0)) from HBX.out.later hb)
  have HB2 := Lib.hid (HB1.out.trans (hb.mono HB1.out.size))
  clear hb
  go_wp2_with ((with_reducible refine wpList_store_row rfl 38 (.tmp 2) (.tmp 22) rfl rfl W.heap.size rfl 38 (Ms.zero.cs none 0) #[.int .i64 0, .int .i64 0, .int .u32 0, .int .u32 0, .int .i64 0, .bool false, .slice none 0 0, .int .i64 0, .int .u32 0, .int .u32 0, .int .i64 0, .int .i64 0, .int .u32 0, .int .i64 0, .int .i64 0, .int .i64 0, .int .u32 0, .int .u64 0, .int .u64 0, .int .u64 0, .int .u64 0, .int .i64 0, .int .i64 0, .int .i64 0, .int .u32 0, .int .u32 0, .int .u8 0, .int .i64 0, .int .u32 0, .int .i64 0, .int .u32 0, .int .u32 0] rfl HBC1.out info_zero HSS.out zero_one ?_))
  (try simp only [Exit.inBlock, Exit.then])
  exact bodyPost_ret (v := .tuple #[.agg (Ms.zero.cs none 0), .int .i64 oe]) (results_cell rfl rfl rfl (box_setRow (n := Ms.zero) (sa := none) (sc := 0) (m := Ms.zero) HBC1.out) Tryz.underlying38 rfl (info_msg Ms.zero none 0)) rfl ⟨none, 0, rfl, arow_nil _ _, below_setRow HB2.out (Nat.le_refl _)⟩
set_option maxHeartbeats 6400000 in
theorem rmdec0 (s : ByteArray) (W : World) (h1 : 3 ≤ s.size) (h2 : s.size ≤ 512) (h3 : openE s = 0) (hk : ¬ (1 ≤ kindOf (openS s).data.toList ∧ kindOf (openS s).data.toList ≤ 5)) : Calls Tryz.prog 5 #[.string s] W (DecM W (decM s) (decME s)) := by
  obtain ⟨hsl, hsz⟩ := open_sealB h3
  obtain ⟨os, hos⟩ : ∃ o, o = openS s := ⟨_, rfl⟩
  rw [← hos] at hk hsz
  have ho1 : 1 ≤ os.size := by omega
  have ho2 : os.size ≤ 510 := by omega
  have ho3 : (1 : Int) ≤ (os.size : Int) := by omega
  obtain ⟨kk, hkk⟩ : ∃ k, k = kindOf os.data.toList := ⟨_, rfl⟩
  rw [← hkk] at hk
  have hx0 : (os[0].toNat : Int) = kk := (kindOf_head (s := os) (by omega)).symm.trans hkk.symm
  have hkk0 : 0 ≤ kk := by omega
  have hkk1 : kk ≤ 255 := by have := os[0].toNat_lt; omega
  have hkkw : IntKind.i64.wrap kk = kk := IntWalk.i64_in _ (by omega)
  have hbo : bodyOk os.data.toList = false := by
    unfold bodyOk
    rw [← hkk]
    have : (decide (1 ≤ kk) && decide (kk ≤ 5)) = false := by rw [Bool.and_eq_false_iff, decide_eq_false_iff_not, decide_eq_false_iff_not]; omega
    rw [this]; rfl
  have hde : decME s = 4 := by
    unfold decME
    rw [if_neg (by omega), if_neg (by omega), if_pos h3, ← hos, hbo]; rfl
  have hdm : decM s = Ms.zero := by
    unfold decM
    rw [hde]; rfl
  rw [hde, hdm]
  have hdk : (decide (1 ≤ kk) && decide (kk ≤ 5)) = false := by rw [Bool.and_eq_false_iff, decide_eq_false_iff_not, decide_eq_false_iff_not]; omega
  have hdl : decide (512 < (s.size : Int)) = false := decide_eq_false (by omega)
  have hdl2 : decide ((s.size : Int) < 3) = false := decide_eq_false (by omega)
  obtain ⟨W1, hW1⟩ : ∃ W1, W1 = W.alloc (.cells #[.int .i64 0, .int .i64 0, .int .u32 0, .int .u32 0, .int .i64 0, .bool false, .slice none 0 0, .int .i64 0, .int .u32 0, .int .u32 0, .int .i64 0, .int .i64 0, .int .u32 0, .int .i64 0, .int .i64 0, .int .i64 0, .int .u32 0, .int .u64 0, .int .u64 0, .int .u64 0, .int .u64 0, .int .i64 0, .int .i64 0, .int .i64 0, .int .u32 0, .int .u32 0, .int .u8 0, .int .i64 0, .int .u32 0, .int .i64 0, .int .u32 0, .int .u32 0] 38) := ⟨_, rfl⟩
  have hb1 : Below W.heap.size W W1 := by rw [hW1]; exact (Below.refl _ _).alloc (Nat.le_refl _) _
  have hbx : BoxM W.heap.size Ms.zero none 0 W1 := by rw [hW1]; exact heap_alloc_new _ _
  have HBX := Lib.hid hbx
  have HBC := Lib.hid (show W1.heap[W.heap.size]? = some (.cells (Ms.zero.cs none 0) 38 (0, 0)) from hbx)
  have HSS := Lib.hid (show (Ms.zero.cs none 0).size = (#[.int .i64 0, .int .i64 0, .int .u32 0, .int .u32 0, .int .i64 0, .bool false, .slice none 0 0, .int .i64 0, .int .u32 0, .int .u32 0, .int .i64 0, .int .i64 0, .int .u32 0, .int .i64 0, .int .i64 0, .int .i64 0, .int .u32 0, .int .u64 0, .int .u64 0, .int .u64 0, .int .u64 0, .int .i64 0, .int .i64 0, .int .i64 0, .int .u32 0, .int .u32 0, .int .u8 0, .int .i64 0, .int .u32 0, .int .i64 0, .int .u32 0, .int .u32 0] : Array Value).size from rfl)
  have HW1 := Lib.hid hW1
  have HB1 := Lib.hid hb1
  have HOS := Lib.hid hos
  have HOE := Lib.hid h3
  have HOP := Lib.hid (ropen_any s W1 (by omega))
  have HIK := Lib.hid (show (Tryz.prog.info? 38).map (·.size) = some (#[.int .i64 kk, .int .i64 0, .int .u32 0, .int .u32 0, .int .i64 0, .bool false, .slice none 0 0, .int .i64 0, .int .u32 0, .int .u32 0, .int .i64 0, .int .i64 0, .int .u32 0, .int .i64 0, .int .i64 0, .int .i64 0, .int .u32 0, .int .u64 0, .int .u64 0, .int .u64 0, .int .u64 0, .int .i64 0, .int .i64 0, .int .i64 0, .int .u32 0, .int .u32 0, .int .u8 0, .int .i64 0, .int .u32 0, .int .i64 0, .int .u32 0, .int .u32 0] : Array Value).size from info_msg' (Ms.m0 kk) none 0)
  have HSK := Lib.hid (show (#[.int .i64 0, .int .i64 0, .int .u32 0, .int .u32 0, .int .i64 0, .bool false, .slice none 0 0, .int .i64 0, .int .u32 0, .int .u32 0, .int .i64 0, .int .i64 0, .int .u32 0, .int .i64 0, .int .i64 0, .int .i64 0, .int .u32 0, .int .u64 0, .int .u64 0, .int .u64 0, .int .u64 0, .int .i64 0, .int .i64 0, .int .i64 0, .int .u32 0, .int .u32 0, .int .u8 0, .int .i64 0, .int .u32 0, .int .i64 0, .int .u32 0, .int .u32 0] : Array Value).size = (#[.int .i64 kk, .int .i64 0, .int .u32 0, .int .u32 0, .int .i64 0, .bool false, .slice none 0 0, .int .i64 0, .int .u32 0, .int .u32 0, .int .i64 0, .int .i64 0, .int .u32 0, .int .i64 0, .int .i64 0, .int .i64 0, .int .u32 0, .int .u64 0, .int .u64 0, .int .u64 0, .int .u64 0, .int .i64 0, .int .i64 0, .int .i64 0, .int .u32 0, .int .u32 0, .int .u8 0, .int .i64 0, .int .u32 0, .int .i64 0, .int .u32 0, .int .u32 0] : Array Value).size from rfl)
  have HOK := Lib.hid (show (#[.int .i64 kk, .int .i64 0, .int .u32 0, .int .u32 0, .int .i64 0, .bool false, .slice none 0 0, .int .i64 0, .int .u32 0, .int .u32 0, .int .i64 0, .int .i64 0, .int .u32 0, .int .i64 0, .int .i64 0, .int .i64 0, .int .u32 0, .int .u64 0, .int .u64 0, .int .u64 0, .int .u64 0, .int .i64 0, .int .i64 0, .int .i64 0, .int .u32 0, .int .u32 0, .int .u8 0, .int .i64 0, .int .u32 0, .int .i64 0, .int .u32 0, .int .u32 0] : Array Value).all (·.oneCell') = true from cs_one (Ms.m0 kk) none 0)
  have hos1 : 0 < os.size := by omega
  have k1 : (kk == 1) = false := by rw [beq_eq_false_iff_ne]; omega
  have k2 : (kk == 2) = false := by rw [beq_eq_false_iff_ne]; omega
  have k3 : (kk == 3) = false := by rw [beq_eq_false_iff_ne]; omega
  have k4 : (kk == 4) = false := by rw [beq_eq_false_iff_ne]; omega
  have k5 : (kk == 5) = false := by rw [beq_eq_false_iff_ne]; omega
  clear hW1 hb1 hbx hos h3 hk hkk hbo hde hdm hdk hsl
  go_enter Tryz.func5, Tryz.ntmps5
  go_upto_region 1 with fail
  rw [← HW1.out]
  go_wp2_with fail
  refine HOP.out.mono ?_
  rintro e V ⟨rfl, hb⟩
  rw [← HOS.out, HOE.out]
  have HB2 := Lib.hid (HB1.out.trans (hb.mono HB1.out.size))
  have HZ2 := Lib.hid (HBX.out.later hb)
  have HAL := Lib.hid (show (V.alloc (.cells #[.int .i64 0, .int .i64 0, .int .u32 0, .int .u32 0, .int .i64 0, .bool false, .slice none 0 0, .int .i64 0, .int .u32 0, .int .u32 0, .int .i64 0, .int .i64 0, .int .u32 0, .int .i64 0, .int .i64 0, .int .i64 0, .int .u32 0, .int .u64 0, .int .u64 0, .int .u64 0, .int .u64 0, .int .i64 0, .int .i64 0, .int .i64 0, .int .u32 0, .int .u32 0, .int .u8 0, .int .i64 0, .int .u32 0, .int .i64 0, .int .u32 0, .int .u32 0] 38)).heap[V.heap.size]? = some (.cells #[.int .i64 0, .int .i64 0, .int .u32 0, .int .u32 0, .int .i64 0, .bool false, .slice none 0 0, .int .i64 0, .int .u32 0, .int .u32 0, .int .i64 0, .int .i64 0, .int .u32 0, .int .i64 0, .int .i64 0, .int .i64 0, .int .u32 0, .int .u64 0, .int .u64 0, .int .u64 0, .int .u64 0, .int .i64 0, .int .i64 0, .int .i64 0, .int .u32 0, .int .u32 0, .int .u8 0, .int .i64 0, .int .u32 0, .int .i64 0, .int .u32 0, .int .u32 0] 38 (0, 0)) from heap_alloc_new _ _)
  clear hb
  go_upto_region 9 with ((with_reducible refine wpList_store_row rfl 38 (.tmp 6) (.tmp 27) rfl rfl V.heap.size rfl 38 #[.int .i64 0, .int .i64 0, .int .u32 0, .int .u32 0, .int .i64 0, .bool false, .slice none 0 0, .int .i64 0, .int .u32 0, .int .u32 0, .int .i64 0, .int .i64 0, .int .u32 0, .int .i64 0, .int .i64 0, .int .i64 0, .int .u32 0, .int .u64 0, .int .u64 0, .int .u64 0, .int .u64 0, .int .i64 0, .int .i64 0, .int .i64 0, .int .u32 0, .int .u32 0, .int .u8 0, .int .i64 0, .int .u32 0, .int .i64 0, .int .u32 0, .int .u32 0] #[.int .i64 kk, .int .i64 0, .int .u32 0, .int .u32 0, .int .i64 0, .bool false, .slice none 0 0, .int .i64 0, .int .u32 0, .int .u32 0, .int .i64 0, .int .i64 0, .int .u32 0, .int .i64 0, .int .i64 0, .int .i64 0, .int .u32 0, .int .u64 0, .int .u64 0, .int .u64 0, .int .u64 0, .int .i64 0, .int .i64 0, .int .i64 0, .int .u32 0, .int .u32 0, .int .u8 0, .int .i64 0, .int .u32 0, .int .i64 0, .int .u32 0, .int .u32 0] rfl HAL.out HIK.out HSK.out HOK.out ?_))
  obtain ⟨g, hg⟩ : ∃ g, g = V.heap.size := ⟨_, rfl⟩
  obtain ⟨Y, hY⟩ : ∃ Y, Y = (V.alloc (.cells #[.int .i64 0, .int .i64 0, .int .u32 0, .int .u32 0, .int .i64 0, .bool false, .slice none 0 0, .int .i64 0, .int .u32 0, .int .u32 0, .int .i64 0, .int .i64 0, .int .u32 0, .int .i64 0, .int .i64 0, .int .i64 0, .int .u32 0, .int .u64 0, .int .u64 0, .int .u64 0, .int .u64 0, .int .i64 0, .int .i64 0, .int .i64 0, .int .u32 0, .int .u32 0, .int .u8 0, .int .i64 0, .int .u32 0, .int .i64 0, .int .u32 0, .int .u32 0] 38)).setRow V.heap.size #[.int .i64 kk, .int .i64 0, .int .u32 0, .int .u32 0, .int .i64 0, .bool false, .slice none 0 0, .int .i64 0, .int .u32 0, .int .u32 0, .int .i64 0, .int .i64 0, .int .u32 0, .int .i64 0, .int .i64 0, .int .i64 0, .int .u32 0, .int .u64 0, .int .u64 0, .int .u64 0, .int .u64 0, .int .i64 0, .int .i64 0, .int .i64 0, .int .u32 0, .int .u32 0, .int .u8 0, .int .i64 0, .int .u32 0, .int .i64 0, .int .u32 0, .int .u32 0] := ⟨_, rfl⟩
  have hgY : BoxM g (Ms.m0 kk) none 0 Y := by rw [hY, hg]; exact setRow_heap _ _ _ _ _ _ HAL.out
  have hbY : Below V.heap.size V Y := by rw [hY]; exact below_setRow ((Below.refl _ _).alloc (Nat.le_refl _) _) (Nat.le_refl _)
  have HGY := Lib.hid hgY
  have HBY := Lib.hid (HB2.out.trans (hbY.mono HB2.out.size))
  have HZY := Lib.hid (HZ2.out.later hbY)
  have HGW := Lib.hid (show W.heap.size < g by rw [hg]; exact (Array.getElem?_eq_some_iff.1 HZ2.out).1)
  have x0 : Y.cell? ⟨g, 0, none⟩ = some (.int .i64 kk) := hgY.cell rfl
  rw [← hY, ← hg]
  clear hY hg hgY hbY
  have HRC := Lib.hid (show Y.heap[W.heap.size]? = some (.cells (Ms.zero.cs none 0) 38 (0, 0)) from HZY.out)
  go_wp2_with ((with_reducible refine wpList_store_row rfl 38 (.tmp 2) (.tmp 30) rfl rfl W.heap.size rfl 38 (Ms.zero.cs none 0) #[.int .i64 0, .int .i64 0, .int .u32 0, .int .u32 0, .int .i64 0, .bool false, .slice none 0 0, .int .i64 0, .int .u32 0, .int .u32 0, .int .i64 0, .int .i64 0, .int .u32 0, .int .i64 0, .int .i64 0, .int .i64 0, .int .u32 0, .int .u64 0, .int .u64 0, .int .u64 0, .int .u64 0, .int .i64 0, .int .i64 0, .int .i64 0, .int .u32 0, .int .u32 0, .int .u8 0, .int .i64 0, .int .u32 0, .int .i64 0, .int .u32 0, .int .u32 0] rfl HRC.out info_zero HSS.out zero_one ?_))
  (try simp only [Exit.inBlock, Exit.then])
  refine bodyPost_ret (v := .tuple #[.agg (Ms.zero.cs none 0), .int .i64 4]) (results_cell rfl rfl rfl (box_setRow (n := Ms.zero) (sa := none) (sc := 0) (m := Ms.zero) HRC.out) Tryz.underlying38 rfl (info_msg Ms.zero none 0)) rfl ?_
  exact ⟨none, 0, rfl, arow_nil _ _, below_setRow HBY.out (Nat.le_refl _)⟩
set_option maxHeartbeats 12800000 in
theorem rmdec1 (s : ByteArray) (W : World) (h1 : 3 ≤ s.size) (h2 : s.size ≤ 512) (h3 : openE s = 0) (hk : kindOf (openS s).data.toList = 1) : Calls Tryz.prog 5 #[.string s] W (DecM W (decM s) (decME s)) := by
  obtain ⟨hsl, hsz⟩ := open_sealB h3
  obtain ⟨os, hos⟩ : ∃ o, o = openS s := ⟨_, rfl⟩
  rw [← hos] at hk hsz
  have ho1 : 1 ≤ os.size := by omega
  have ho2 : os.size ≤ 510 := by omega
  have ho3 : (1 : Int) ≤ (os.size : Int) := by omega
  have hx0 : (os[0].toNat : Int) = 1 := (kindOf_head (s := os) (by omega)).symm.trans hk
  obtain ⟨tl, htl⟩ : ∃ t, t = os.extract 1 os.size := ⟨_, rfl⟩
  have htl2 : tl.data.toList = os.data.toList.tail := by rw [htl]; exact tail_list os
  have hts : tl.size ≤ 1000 := by rw [htl, ByteArray.size_extract]; omega
  have hbo : bodyOk os.data.toList = (redOk 1 tl.data.toList && (Ms.got 1 tl.data.toList).chk) := by
    unfold bodyOk
    rw [hk, ← htl2]
    rfl
  have hde : decME s = if (redOk 1 tl.data.toList && (Ms.got 1 tl.data.toList).chk) = true then 0 else 4 := by
    unfold decME
    rw [if_neg (by omega), if_neg (by omega), if_pos h3, ← hos, hbo]
  have hdm : decM s = if decME s = 0 then Ms.got 1 tl.data.toList else Ms.zero := by
    unfold decM
    rw [← hos, hk, ← htl2]
  rw [hde] at hdm
  have hgo := got_ok 1 tl.data.toList (by unfold I64; omega)
  have hga := got_adjs 1 tl.data.toList
  obtain ⟨M, hM⟩ : ∃ M, M = Ms.got 1 tl.data.toList := ⟨_, rfl⟩
  obtain ⟨ro, hro⟩ : ∃ b, b = redOk 1 tl.data.toList := ⟨_, rfl⟩
  rw [← hM, ← hro] at hde hdm
  rw [← hM] at hgo hga
  have hdl : decide (512 < (s.size : Int)) = false := decide_eq_false (by omega)
  have hdl2 : decide ((s.size : Int) < 3) = false := decide_eq_false (by omega)
  obtain ⟨r, hr⟩ : ∃ r, r = decR tl.data.toList := ⟨_, rfl⟩
  obtain ⟨d, hd⟩ : ∃ d, d = decE tl.data.toList := ⟨_, rfl⟩
  have HRO := Lib.hid (show ro = decide (d = 0) by rw [hro, hd]; rfl)
  have HM := Lib.hid (show M = ({ Ms.zero with kd := 1, rc := r } : Ms) by rw [hM, hr]; rfl)
  have HRD := Lib.hid (fun V : World => show Calls Tryz.prog 14 #[.string tl] V (fun e X => ∃ sa sc, e = .returned (.tuple #[.agg #[.int .i64 r.org, .int .u32 r.ep, .int .u32 r.sq, .int .i64 r.clm, .bool r.ing, .slice sa r.adjs.length sc], .int .i64 d]) ∧ ARow X V.heap.size sa sc r.adjs ∧ Below V.heap.size V X) from by
    have h := rdecode_any tl V (by omega)
    rw [← hr, ← hd] at h
    exact h)
  obtain ⟨W1, hW1⟩ : ∃ W1, W1 = W.alloc (.cells #[.int .i64 0, .int .i64 0, .int .u32 0, .int .u32 0, .int .i64 0, .bool false, .slice none 0 0, .int .i64 0, .int .u32 0, .int .u32 0, .int .i64 0, .int .i64 0, .int .u32 0, .int .i64 0, .int .i64 0, .int .i64 0, .int .u32 0, .int .u64 0, .int .u64 0, .int .u64 0, .int .u64 0, .int .i64 0, .int .i64 0, .int .i64 0, .int .u32 0, .int .u32 0, .int .u8 0, .int .i64 0, .int .u32 0, .int .i64 0, .int .u32 0, .int .u32 0] 38) := ⟨_, rfl⟩
  have hb1 : Below W.heap.size W W1 := by rw [hW1]; exact (Below.refl _ _).alloc (Nat.le_refl _) _
  have hbx : BoxM W.heap.size Ms.zero none 0 W1 := by rw [hW1]; exact heap_alloc_new _ _
  have HBX := Lib.hid hbx
  have HBC := Lib.hid (show W1.heap[W.heap.size]? = some (.cells (Ms.zero.cs none 0) 38 (0, 0)) from hbx)
  have HSS := Lib.hid (show (Ms.zero.cs none 0).size = (#[.int .i64 0, .int .i64 0, .int .u32 0, .int .u32 0, .int .i64 0, .bool false, .slice none 0 0, .int .i64 0, .int .u32 0, .int .u32 0, .int .i64 0, .int .i64 0, .int .u32 0, .int .i64 0, .int .i64 0, .int .i64 0, .int .u32 0, .int .u64 0, .int .u64 0, .int .u64 0, .int .u64 0, .int .i64 0, .int .i64 0, .int .i64 0, .int .u32 0, .int .u32 0, .int .u8 0, .int .i64 0, .int .u32 0, .int .i64 0, .int .u32 0, .int .u32 0] : Array Value).size from rfl)
  have HW1 := Lib.hid hW1
  have HB1 := Lib.hid hb1
  have HOS := Lib.hid hos
  have HOE := Lib.hid h3
  have HOP := Lib.hid (ropen_any s W1 (by omega))
  have HIK := Lib.hid (show (Tryz.prog.info? 38).map (·.size) = some (#[.int .i64 1, .int .i64 0, .int .u32 0, .int .u32 0, .int .i64 0, .bool false, .slice none 0 0, .int .i64 0, .int .u32 0, .int .u32 0, .int .i64 0, .int .i64 0, .int .u32 0, .int .i64 0, .int .i64 0, .int .i64 0, .int .u32 0, .int .u64 0, .int .u64 0, .int .u64 0, .int .u64 0, .int .i64 0, .int .i64 0, .int .i64 0, .int .u32 0, .int .u32 0, .int .u8 0, .int .i64 0, .int .u32 0, .int .i64 0, .int .u32 0, .int .u32 0] : Array Value).size from info_msg' (Ms.m0 1) none 0)
  have HSK := Lib.hid (show (#[.int .i64 0, .int .i64 0, .int .u32 0, .int .u32 0, .int .i64 0, .bool false, .slice none 0 0, .int .i64 0, .int .u32 0, .int .u32 0, .int .i64 0, .int .i64 0, .int .u32 0, .int .i64 0, .int .i64 0, .int .i64 0, .int .u32 0, .int .u64 0, .int .u64 0, .int .u64 0, .int .u64 0, .int .i64 0, .int .i64 0, .int .i64 0, .int .u32 0, .int .u32 0, .int .u8 0, .int .i64 0, .int .u32 0, .int .i64 0, .int .u32 0, .int .u32 0] : Array Value).size = (#[.int .i64 1, .int .i64 0, .int .u32 0, .int .u32 0, .int .i64 0, .bool false, .slice none 0 0, .int .i64 0, .int .u32 0, .int .u32 0, .int .i64 0, .int .i64 0, .int .u32 0, .int .i64 0, .int .i64 0, .int .i64 0, .int .u32 0, .int .u64 0, .int .u64 0, .int .u64 0, .int .u64 0, .int .i64 0, .int .i64 0, .int .i64 0, .int .u32 0, .int .u32 0, .int .u8 0, .int .i64 0, .int .u32 0, .int .i64 0, .int .u32 0, .int .u32 0] : Array Value).size from rfl)
  have HOK := Lib.hid (show (#[.int .i64 1, .int .i64 0, .int .u32 0, .int .u32 0, .int .i64 0, .bool false, .slice none 0 0, .int .i64 0, .int .u32 0, .int .u32 0, .int .i64 0, .int .i64 0, .int .u32 0, .int .i64 0, .int .i64 0, .int .i64 0, .int .u32 0, .int .u64 0, .int .u64 0, .int .u64 0, .int .u64 0, .int .i64 0, .int .i64 0, .int .i64 0, .int .u32 0, .int .u32 0, .int .u8 0, .int .i64 0, .int .u32 0, .int .i64 0, .int .u32 0, .int .u32 0] : Array Value).all (·.oneCell') = true from cs_one (Ms.m0 1) none 0)
  have HGO := Lib.hid hgo
  have HGA := Lib.hid hga
  have HDE := Lib.hid hde
  have HDM := Lib.hid hdm
  have HSZ := Lib.hid (fun sa sc => info_msg M sa sc)
  have HSZ' := Lib.hid (fun sa sc => info_msg' M sa sc)
  have HONE := Lib.hid (fun sa sc => cs_one M sa sc)
  have HSM := Lib.hid (fun sa sc => show (Ms.zero.cs none 0).size = (M.cs sa sc).size from rfl)
  have HTL := Lib.hid htl
  have hos1 : 0 < os.size := by omega
  have HTS := Lib.hid hts
  clear hW1 hb1 hbx hos h3 hk hbo hM hro hgo hga hde hdm htl htl2 hts hsl hr hd
  go_enter Tryz.func5, Tryz.ntmps5
  go_upto_region 1 with fail
  rw [← HW1.out]
  go_wp2_with fail
  refine HOP.out.mono ?_
  rintro e V ⟨rfl, hb⟩
  rw [← HOS.out, HOE.out]
  have HB2 := Lib.hid (HB1.out.trans (hb.mono HB1.out.size))
  have HZ2 := Lib.hid (HBX.out.later hb)
  have HAL := Lib.hid (show (V.alloc (.cells #[.int .i64 0, .int .i64 0, .int .u32 0, .int .u32 0, .int .i64 0, .bool false, .slice none 0 0, .int .i64 0, .int .u32 0, .int .u32 0, .int .i64 0, .int .i64 0, .int .u32 0, .int .i64 0, .int .i64 0, .int .i64 0, .int .u32 0, .int .u64 0, .int .u64 0, .int .u64 0, .int .u64 0, .int .i64 0, .int .i64 0, .int .i64 0, .int .u32 0, .int .u32 0, .int .u8 0, .int .i64 0, .int .u32 0, .int .i64 0, .int .u32 0, .int .u32 0] 38)).heap[V.heap.size]? = some (.cells #[.int .i64 0, .int .i64 0, .int .u32 0, .int .u32 0, .int .i64 0, .bool false, .slice none 0 0, .int .i64 0, .int .u32 0, .int .u32 0, .int .i64 0, .int .i64 0, .int .u32 0, .int .i64 0, .int .i64 0, .int .i64 0, .int .u32 0, .int .u64 0, .int .u64 0, .int .u64 0, .int .u64 0, .int .i64 0, .int .i64 0, .int .i64 0, .int .u32 0, .int .u32 0, .int .u8 0, .int .i64 0, .int .u32 0, .int .i64 0, .int .u32 0, .int .u32 0] 38 (0, 0)) from heap_alloc_new _ _)
  clear hb
  go_upto_region 9 with ((with_reducible refine wpList_store_row rfl 38 (.tmp 6) (.tmp 27) rfl rfl V.heap.size rfl 38 #[.int .i64 0, .int .i64 0, .int .u32 0, .int .u32 0, .int .i64 0, .bool false, .slice none 0 0, .int .i64 0, .int .u32 0, .int .u32 0, .int .i64 0, .int .i64 0, .int .u32 0, .int .i64 0, .int .i64 0, .int .i64 0, .int .u32 0, .int .u64 0, .int .u64 0, .int .u64 0, .int .u64 0, .int .i64 0, .int .i64 0, .int .i64 0, .int .u32 0, .int .u32 0, .int .u8 0, .int .i64 0, .int .u32 0, .int .i64 0, .int .u32 0, .int .u32 0] #[.int .i64 1, .int .i64 0, .int .u32 0, .int .u32 0, .int .i64 0, .bool false, .slice none 0 0, .int .i64 0, .int .u32 0, .int .u32 0, .int .i64 0, .int .i64 0, .int .u32 0, .int .i64 0, .int .i64 0, .int .i64 0, .int .u32 0, .int .u64 0, .int .u64 0, .int .u64 0, .int .u64 0, .int .i64 0, .int .i64 0, .int .i64 0, .int .u32 0, .int .u32 0, .int .u8 0, .int .i64 0, .int .u32 0, .int .i64 0, .int .u32 0, .int .u32 0] rfl HAL.out HIK.out HSK.out HOK.out ?_))
  obtain ⟨g, hg⟩ : ∃ g, g = V.heap.size := ⟨_, rfl⟩
  obtain ⟨Y, hY⟩ : ∃ Y, Y = (V.alloc (.cells #[.int .i64 0, .int .i64 0, .int .u32 0, .int .u32 0, .int .i64 0, .bool false, .slice none 0 0, .int .i64 0, .int .u32 0, .int .u32 0, .int .i64 0, .int .i64 0, .int .u32 0, .int .i64 0, .int .i64 0, .int .i64 0, .int .u32 0, .int .u64 0, .int .u64 0, .int .u64 0, .int .u64 0, .int .i64 0, .int .i64 0, .int .i64 0, .int .u32 0, .int .u32 0, .int .u8 0, .int .i64 0, .int .u32 0, .int .i64 0, .int .u32 0, .int .u32 0] 38)).setRow V.heap.size #[.int .i64 1, .int .i64 0, .int .u32 0, .int .u32 0, .int .i64 0, .bool false, .slice none 0 0, .int .i64 0, .int .u32 0, .int .u32 0, .int .i64 0, .int .i64 0, .int .u32 0, .int .i64 0, .int .i64 0, .int .i64 0, .int .u32 0, .int .u64 0, .int .u64 0, .int .u64 0, .int .u64 0, .int .i64 0, .int .i64 0, .int .i64 0, .int .u32 0, .int .u32 0, .int .u8 0, .int .i64 0, .int .u32 0, .int .i64 0, .int .u32 0, .int .u32 0] := ⟨_, rfl⟩
  have hgY : BoxM g (Ms.m0 1) none 0 Y := by rw [hY, hg]; exact setRow_heap _ _ _ _ _ _ HAL.out
  have hbY : Below V.heap.size V Y := by rw [hY]; exact below_setRow ((Below.refl _ _).alloc (Nat.le_refl _) _) (Nat.le_refl _)
  have HGY := Lib.hid hgY
  have HBY := Lib.hid (HB2.out.trans (hbY.mono HB2.out.size))
  have HZY := Lib.hid (HZ2.out.later hbY)
  have HGW := Lib.hid (show W.heap.size < g by rw [hg]; exact (Array.getElem?_eq_some_iff.1 HZ2.out).1)
  have x0 : Y.cell? ⟨g, 0, none⟩ = some (.int .i64 1) := hgY.cell rfl
  rw [← hY, ← hg]
  clear hY hg hgY hbY
  go_wp2_with fail
  rw [← HTL.out]
  refine (HRD.out Y).mono ?_
  rintro e X ⟨sa, sc, rfl, har, hb⟩
  have HGX := Lib.hid (HGY.out.later hb)
  have HXB := Lib.hid (HBY.out.trans (hb.mono HBY.out.size))
  have HZX := Lib.hid (HZY.out.later hb)
  have HROW := Lib.hid har
  have x0x : X.cell? ⟨g, 0, none⟩ = some (.int .i64 1) := HGX.out.cell rfl
  have f0x : X.frozen? ⟨g, 0, none⟩ = false := HGX.out.frz 0
  have x1 : X.cell? ⟨g, 1, none⟩ = some (.int .i64 0) := HGX.out.cell rfl
  have f1 : X.frozen? ⟨g, 1, none⟩ = false := HGX.out.frz 1
  have x2 : X.cell? ⟨g, 2, none⟩ = some (.int .u32 0) := HGX.out.cell rfl
  have f2 : X.frozen? ⟨g, 2, none⟩ = false := HGX.out.frz 2
  have x3 : X.cell? ⟨g, 3, none⟩ = some (.int .u32 0) := HGX.out.cell rfl
  have f3 : X.frozen? ⟨g, 3, none⟩ = false := HGX.out.frz 3
  have x4 : X.cell? ⟨g, 4, none⟩ = some (.int .i64 0) := HGX.out.cell rfl
  have f4 : X.frozen? ⟨g, 4, none⟩ = false := HGX.out.frz 4
  have x5 : X.cell? ⟨g, 5, none⟩ = some (.bool false) := HGX.out.cell rfl
  have f5 : X.frozen? ⟨g, 5, none⟩ = false := HGX.out.frz 5
  have x6 : X.cell? ⟨g, 6, none⟩ = some (.slice none 0 0) := HGX.out.cell rfl
  have f6 : X.frozen? ⟨g, 6, none⟩ = false := HGX.out.frz 6
  clear hb x0 har
  go_upto_region 25 with fail
  obtain ⟨Z, hZ⟩ : ∃ Z, Z = ((((((X.setCell ⟨g, 1, none⟩ (.int .i64 r.org)).setCell ⟨g, 2, none⟩ (.int .u32 r.ep)).setCell ⟨g, 3, none⟩ (.int .u32 r.sq)).setCell ⟨g, 4, none⟩ (.int .i64 r.clm)).setCell ⟨g, 5, none⟩ (.bool r.ing)).setCell ⟨g, 6, none⟩ (.slice sa r.adjs.length sc)) := ⟨_, rfl⟩
  have HBM := Lib.hid (show BoxM g M sa sc Z from by
    rw [HM.out, hZ]
    have h := (heap_setCell_same _ g 6 _ _ (.slice sa r.adjs.length sc) (heap_setCell_same _ g 5 _ _ (.bool r.ing) (heap_setCell_same _ g 4 _ _ (.int .i64 r.clm) (heap_setCell_same _ g 3 _ _ (.int .u32 r.sq) (heap_setCell_same _ g 2 _ _ (.int .u32 r.ep) (heap_setCell_same _ g 1 _ _ (.int .i64 r.org) HGX.out))))))
    unfold Ms.cs at h
    simp only [List.setIfInBounds_toArray, List.set_cons_succ, List.set_cons_zero] at h
    unfold BoxM Ms.cs
    exact h)
  have hgw := HGW.out
  have HZB := Lib.hid (show Below W.heap.size W Z from by
    rw [hZ]
    repeat (with_reducible refine Below.setCell ?_ (by simp only; omega) _)
    exact HXB.out)
  have HRC := Lib.hid (show Z.heap[W.heap.size]? = some (.cells (Ms.zero.cs none 0) 38 (0, 0)) from by
    rw [hZ]
    have hne : W.heap.size ≠ g := by omega
    iterate 6 rw [heap_setCell_other _ _ _ _ hne]
    exact HZX.out)
  have HAR := Lib.hid (show ARow Z (W.heap.size + 1) sa sc M.rc.adjs from by
    rw [HM.out]
    refine ((HROW.out.more ?_).same fun k hk => ?_)
    · have h1 := (Array.getElem?_eq_some_iff.1 HGY.out).1
      omega
    · have h1 := (HROW.out.lt k hk).1
      have h2 := (Array.getElem?_eq_some_iff.1 HGY.out).1
      have hne : k ≠ g := by omega
      rw [hZ]
      iterate 6 rw [heap_setCell_other _ _ _ _ hne])
  clear hgw
  rw [← hZ]
  clear hZ x0x f0x x1 f1 x2 f2 x3 f3 x4 f4 x5 f5 x6 f6
  cases ro with
  | false =>
    have hd0 : d ≠ 0 := of_decide_eq_false HRO.out.symm
    have e1 : (d == 0) = false := by rw [beq_eq_false_iff_ne]; exact hd0
    have e2 : (d != 0) = true := by rw [bne_iff_ne]; exact hd0
    have HRM := Lib.hid (show decM s = Ms.zero ∧ decME s = 4 from ⟨HDM.out, HDE.out⟩)
    clear hd0
    go_wp2_with ((with_reducible refine wpList_store_row rfl 38 (.tmp 2) (.tmp 132) rfl rfl W.heap.size rfl 38 (Ms.zero.cs none 0) #[.int .i64 0, .int .i64 0, .int .u32 0, .int .u32 0, .int .i64 0, .bool false, .slice none 0 0, .int .i64 0, .int .u32 0, .int .u32 0, .int .i64 0, .int .i64 0, .int .u32 0, .int .i64 0, .int .i64 0, .int .i64 0, .int .u32 0, .int .u64 0, .int .u64 0, .int .u64 0, .int .u64 0, .int .i64 0, .int .i64 0, .int .i64 0, .int .u32 0, .int .u32 0, .int .u8 0, .int .i64 0, .int .u32 0, .int .i64 0, .int .u32 0, .int .u32 0] rfl HRC.out info_zero HSS.out zero_one ?_))
    (try simp only [Exit.inBlock, Exit.then])
    refine bodyPost_ret (v := .tuple #[.agg (Ms.zero.cs none 0), .int .i64 4]) (results_cell rfl rfl rfl (box_setRow (n := Ms.zero) (sa := none) (sc := 0) (m := Ms.zero) HRC.out) Tryz.underlying38 rfl (info_msg Ms.zero none 0)) rfl ?_
    show DecM W (decM s) (decME s) _ _
    rw [HRM.out.1, HRM.out.2]
    exact ⟨none, 0, rfl, arow_nil _ _, below_setRow HZB.out (Nat.le_refl _)⟩
  | true =>
    obtain rfl : d = 0 := of_decide_eq_true HRO.out.symm
    have HCH := Lib.hid (rmcheck_any M sa sc Z HGO.out (ARow.adjs HAR.out) (by have := HGA.out; unfold maxLen; omega))
    have HCC0 := Lib.hid (block_cells HBM.out)
    have HS1 := Lib.hid (HSZ.out sa sc)
    go_wp2_with ((with_reducible refine wpList_load_csg (by kernel_rfl) 38 (.tmp 6) rfl ⟨g, 0, none⟩ rfl (M.cs sa sc).toList _ HCC0.out Tryz.underlying38 rfl HS1.out ?_); rw [Array.toArray_toList])
    unfold Ms.ag at HCH
    refine HCH.out.mono ?_
    rintro e Z2 ⟨rfl, hb⟩
    have HZ2B := Lib.hid (HZB.out.trans (hb.mono HZB.out.size))
    have HBM2 := Lib.hid (HBM.out.later hb)
    have HAR2 := Lib.hid (Row.later HAR.out hb)
    have HRC2 := Lib.hid (show Z2.heap[W.heap.size]? = some (.cells (Ms.zero.cs none 0) 38 (0, 0)) from (hb.block _ (Array.getElem?_eq_some_iff.1 HRC.out).1).trans HRC.out)
    clear hb HCH
    cases hc : M.chk with
    | false =>
      have hme : M.err = 2 := by unfold Ms.err; rw [hc]; rfl
      have HRM := Lib.hid (show decM s = Ms.zero ∧ decME s = 4 from ⟨by rw [HDM.out, hc]; rfl, by rw [HDE.out, hc]; rfl⟩)
      rw [hme]
      clear hme hc
      go_wp2_with ((with_reducible refine wpList_store_row rfl 38 (.tmp 2) (.tmp 132) rfl rfl W.heap.size rfl 38 (Ms.zero.cs none 0) #[.int .i64 0, .int .i64 0, .int .u32 0, .int .u32 0, .int .i64 0, .bool false, .slice none 0 0, .int .i64 0, .int .u32 0, .int .u32 0, .int .i64 0, .int .i64 0, .int .u32 0, .int .i64 0, .int .i64 0, .int .i64 0, .int .u32 0, .int .u64 0, .int .u64 0, .int .u64 0, .int .u64 0, .int .i64 0, .int .i64 0, .int .i64 0, .int .u32 0, .int .u32 0, .int .u8 0, .int .i64 0, .int .u32 0, .int .i64 0, .int .u32 0, .int .u32 0] rfl HRC2.out info_zero HSS.out zero_one ?_))
      (try simp only [Exit.inBlock, Exit.then])
      refine bodyPost_ret (v := .tuple #[.agg (Ms.zero.cs none 0), .int .i64 4]) (results_cell rfl rfl rfl (box_setRow (n := Ms.zero) (sa := none) (sc := 0) (m := Ms.zero) HRC2.out) Tryz.underlying38 rfl (info_msg Ms.zero none 0)) rfl ?_
      show DecM W (decM s) (decME s) _ _
      rw [HRM.out.1, HRM.out.2]
      exact ⟨none, 0, rfl, arow_nil _ _, below_setRow HZ2B.out (Nat.le_refl _)⟩
    | true =>
      have hme : M.err = 0 := by unfold Ms.err; rw [hc]; rfl
      have HRM := Lib.hid (show decM s = M ∧ decME s = 0 from ⟨by rw [HDM.out, hc]; rfl, by rw [HDE.out, hc]; rfl⟩)
      rw [hme]
      clear hme hc
      have HCC := Lib.hid (block_cells HBM2.out)
      have HS2 := Lib.hid (HSZ'.out sa sc)
      have HS3 := Lib.hid (HSM.out sa sc)
      have HS4 := Lib.hid (HONE.out sa sc)
      go_wp2_with (first | ((with_reducible refine wpList_load_cs rfl 38 (.tmp 6) rfl ⟨g, 0, none⟩ rfl (M.cs sa sc).toList _ HCC.out Tryz.underlying38 rfl HS1.out ?_); rw [Array.toArray_toList]) | (with_reducible refine wpList_store_row rfl 38 (.tmp 2) (.tmp 133) rfl rfl W.heap.size rfl 38 (Ms.zero.cs none 0) (M.cs sa sc) rfl HRC2.out HS2.out HS3.out HS4.out ?_))
      (try simp only [Exit.inBlock, Exit.then])
      refine bodyPost_ret (v := .tuple #[.agg (M.cs sa sc), .int .i64 0]) (results_cell rfl rfl rfl (setRow_heap _ _ _ _ _ _ HRC2.out) Tryz.underlying38 rfl (info_msg M sa sc)) rfl ?_
      show DecM W (decM s) (decME s) _ _
      rw [HRM.out.1, HRM.out.2]
      refine ⟨sa, sc, rfl, ?_, below_setRow HZ2B.out (Nat.le_refl _)⟩
      refine (Row.more HAR2.out (Nat.le_succ _)).same fun k hk => ?_
      have := (Row.lt HAR2.out k hk).1
      exact setRow_other _ _ _ _ (by omega)
set_option maxHeartbeats 12800000 in
theorem rmdec2 (s : ByteArray) (W : World) (h1 : 3 ≤ s.size) (h2 : s.size ≤ 512) (h3 : openE s = 0) (hk : kindOf (openS s).data.toList = 2) : Calls Tryz.prog 5 #[.string s] W (DecM W (decM s) (decME s)) := by
  obtain ⟨hsl, hsz⟩ := open_sealB h3
  obtain ⟨os, hos⟩ : ∃ o, o = openS s := ⟨_, rfl⟩
  rw [← hos] at hk hsz
  have ho1 : 1 ≤ os.size := by omega
  have ho2 : os.size ≤ 510 := by omega
  have ho3 : (1 : Int) ≤ (os.size : Int) := by omega
  have hx0 : (os[0].toNat : Int) = 2 := (kindOf_head (s := os) (by omega)).symm.trans hk
  obtain ⟨tl, htl⟩ : ∃ t, t = os.extract 1 os.size := ⟨_, rfl⟩
  have htl2 : tl.data.toList = os.data.toList.tail := by rw [htl]; exact tail_list os
  have hts : tl.size ≤ 1000 := by rw [htl, ByteArray.size_extract]; omega
  have hbo : bodyOk os.data.toList = (redOk 2 tl.data.toList && (Ms.got 2 tl.data.toList).chk) := by
    unfold bodyOk
    rw [hk, ← htl2]
    rfl
  have hde : decME s = if (redOk 2 tl.data.toList && (Ms.got 2 tl.data.toList).chk) = true then 0 else 4 := by
    unfold decME
    rw [if_neg (by omega), if_neg (by omega), if_pos h3, ← hos, hbo]
  have hdm : decM s = if decME s = 0 then Ms.got 2 tl.data.toList else Ms.zero := by
    unfold decM
    rw [← hos, hk, ← htl2]
  rw [hde] at hdm
  have hgo := got_ok 2 tl.data.toList (by unfold I64; omega)
  have hga := got_adjs 2 tl.data.toList
  obtain ⟨M, hM⟩ : ∃ M, M = Ms.got 2 tl.data.toList := ⟨_, rfl⟩
  obtain ⟨ro, hro⟩ : ∃ b, b = redOk 2 tl.data.toList := ⟨_, rfl⟩
  rw [← hM, ← hro] at hde hdm
  rw [← hM] at hgo hga
  have hdl : decide (512 < (s.size : Int)) = false := decide_eq_false (by omega)
  have hdl2 : decide ((s.size : Int) < 3) = false := decide_eq_false (by omega)
  obtain ⟨r, hr⟩ : ∃ r, r = decS tl.data.toList := ⟨_, rfl⟩
  obtain ⟨d, hd⟩ : ∃ d, d = decSE tl.data.toList := ⟨_, rfl⟩
  have HRO := Lib.hid (show ro = decide (d = 0) by rw [hro, hd]; rfl)
  have HM := Lib.hid (show M = ({ Ms.zero with kd := 2, st := r } : Ms) by rw [hM, hr]; rfl)
  have HRD := Lib.hid (fun V : World => show Calls Tryz.prog 15 #[.string tl] V (fun e X => e = .returned (.tuple #[.agg #[.int .i64 r.org, .int .u32 r.ep, .int .u32 r.sq], .int .i64 d]) ∧ Below V.heap.size V X) from by
    have h := rdecst_any tl V (by omega)
    rw [← hr, ← hd] at h
    exact h)
  obtain ⟨W1, hW1⟩ : ∃ W1, W1 = W.alloc (.cells #[.int .i64 0, .int .i64 0, .int .u32 0, .int .u32 0, .int .i64 0, .bool false, .slice none 0 0, .int .i64 0, .int .u32 0, .int .u32 0, .int .i64 0, .int .i64 0, .int .u32 0, .int .i64 0, .int .i64 0, .int .i64 0, .int .u32 0, .int .u64 0, .int .u64 0, .int .u64 0, .int .u64 0, .int .i64 0, .int .i64 0, .int .i64 0, .int .u32 0, .int .u32 0, .int .u8 0, .int .i64 0, .int .u32 0, .int .i64 0, .int .u32 0, .int .u32 0] 38) := ⟨_, rfl⟩
  have hb1 : Below W.heap.size W W1 := by rw [hW1]; exact (Below.refl _ _).alloc (Nat.le_refl _) _
  have hbx : BoxM W.heap.size Ms.zero none 0 W1 := by rw [hW1]; exact heap_alloc_new _ _
  have HBX := Lib.hid hbx
  have HBC := Lib.hid (show W1.heap[W.heap.size]? = some (.cells (Ms.zero.cs none 0) 38 (0, 0)) from hbx)
  have HSS := Lib.hid (show (Ms.zero.cs none 0).size = (#[.int .i64 0, .int .i64 0, .int .u32 0, .int .u32 0, .int .i64 0, .bool false, .slice none 0 0, .int .i64 0, .int .u32 0, .int .u32 0, .int .i64 0, .int .i64 0, .int .u32 0, .int .i64 0, .int .i64 0, .int .i64 0, .int .u32 0, .int .u64 0, .int .u64 0, .int .u64 0, .int .u64 0, .int .i64 0, .int .i64 0, .int .i64 0, .int .u32 0, .int .u32 0, .int .u8 0, .int .i64 0, .int .u32 0, .int .i64 0, .int .u32 0, .int .u32 0] : Array Value).size from rfl)
  have HW1 := Lib.hid hW1
  have HB1 := Lib.hid hb1
  have HOS := Lib.hid hos
  have HOE := Lib.hid h3
  have HOP := Lib.hid (ropen_any s W1 (by omega))
  have HIK := Lib.hid (show (Tryz.prog.info? 38).map (·.size) = some (#[.int .i64 2, .int .i64 0, .int .u32 0, .int .u32 0, .int .i64 0, .bool false, .slice none 0 0, .int .i64 0, .int .u32 0, .int .u32 0, .int .i64 0, .int .i64 0, .int .u32 0, .int .i64 0, .int .i64 0, .int .i64 0, .int .u32 0, .int .u64 0, .int .u64 0, .int .u64 0, .int .u64 0, .int .i64 0, .int .i64 0, .int .i64 0, .int .u32 0, .int .u32 0, .int .u8 0, .int .i64 0, .int .u32 0, .int .i64 0, .int .u32 0, .int .u32 0] : Array Value).size from info_msg' (Ms.m0 2) none 0)
  have HSK := Lib.hid (show (#[.int .i64 0, .int .i64 0, .int .u32 0, .int .u32 0, .int .i64 0, .bool false, .slice none 0 0, .int .i64 0, .int .u32 0, .int .u32 0, .int .i64 0, .int .i64 0, .int .u32 0, .int .i64 0, .int .i64 0, .int .i64 0, .int .u32 0, .int .u64 0, .int .u64 0, .int .u64 0, .int .u64 0, .int .i64 0, .int .i64 0, .int .i64 0, .int .u32 0, .int .u32 0, .int .u8 0, .int .i64 0, .int .u32 0, .int .i64 0, .int .u32 0, .int .u32 0] : Array Value).size = (#[.int .i64 2, .int .i64 0, .int .u32 0, .int .u32 0, .int .i64 0, .bool false, .slice none 0 0, .int .i64 0, .int .u32 0, .int .u32 0, .int .i64 0, .int .i64 0, .int .u32 0, .int .i64 0, .int .i64 0, .int .i64 0, .int .u32 0, .int .u64 0, .int .u64 0, .int .u64 0, .int .u64 0, .int .i64 0, .int .i64 0, .int .i64 0, .int .u32 0, .int .u32 0, .int .u8 0, .int .i64 0, .int .u32 0, .int .i64 0, .int .u32 0, .int .u32 0] : Array Value).size from rfl)
  have HOK := Lib.hid (show (#[.int .i64 2, .int .i64 0, .int .u32 0, .int .u32 0, .int .i64 0, .bool false, .slice none 0 0, .int .i64 0, .int .u32 0, .int .u32 0, .int .i64 0, .int .i64 0, .int .u32 0, .int .i64 0, .int .i64 0, .int .i64 0, .int .u32 0, .int .u64 0, .int .u64 0, .int .u64 0, .int .u64 0, .int .i64 0, .int .i64 0, .int .i64 0, .int .u32 0, .int .u32 0, .int .u8 0, .int .i64 0, .int .u32 0, .int .i64 0, .int .u32 0, .int .u32 0] : Array Value).all (·.oneCell') = true from cs_one (Ms.m0 2) none 0)
  have HGO := Lib.hid hgo
  have HGA := Lib.hid hga
  have HDE := Lib.hid hde
  have HDM := Lib.hid hdm
  have HSZ := Lib.hid (fun sa sc => info_msg M sa sc)
  have HSZ' := Lib.hid (fun sa sc => info_msg' M sa sc)
  have HONE := Lib.hid (fun sa sc => cs_one M sa sc)
  have HSM := Lib.hid (fun sa sc => show (Ms.zero.cs none 0).size = (M.cs sa sc).size from rfl)
  have HTL := Lib.hid htl
  have hos1 : 0 < os.size := by omega
  have HTS := Lib.hid hts
  clear hW1 hb1 hbx hos h3 hk hbo hM hro hgo hga hde hdm htl htl2 hts hsl hr hd
  go_enter Tryz.func5, Tryz.ntmps5
  go_upto_region 1 with fail
  rw [← HW1.out]
  go_wp2_with fail
  refine HOP.out.mono ?_
  rintro e V ⟨rfl, hb⟩
  rw [← HOS.out, HOE.out]
  have HB2 := Lib.hid (HB1.out.trans (hb.mono HB1.out.size))
  have HZ2 := Lib.hid (HBX.out.later hb)
  have HAL := Lib.hid (show (V.alloc (.cells #[.int .i64 0, .int .i64 0, .int .u32 0, .int .u32 0, .int .i64 0, .bool false, .slice none 0 0, .int .i64 0, .int .u32 0, .int .u32 0, .int .i64 0, .int .i64 0, .int .u32 0, .int .i64 0, .int .i64 0, .int .i64 0, .int .u32 0, .int .u64 0, .int .u64 0, .int .u64 0, .int .u64 0, .int .i64 0, .int .i64 0, .int .i64 0, .int .u32 0, .int .u32 0, .int .u8 0, .int .i64 0, .int .u32 0, .int .i64 0, .int .u32 0, .int .u32 0] 38)).heap[V.heap.size]? = some (.cells #[.int .i64 0, .int .i64 0, .int .u32 0, .int .u32 0, .int .i64 0, .bool false, .slice none 0 0, .int .i64 0, .int .u32 0, .int .u32 0, .int .i64 0, .int .i64 0, .int .u32 0, .int .i64 0, .int .i64 0, .int .i64 0, .int .u32 0, .int .u64 0, .int .u64 0, .int .u64 0, .int .u64 0, .int .i64 0, .int .i64 0, .int .i64 0, .int .u32 0, .int .u32 0, .int .u8 0, .int .i64 0, .int .u32 0, .int .i64 0, .int .u32 0, .int .u32 0] 38 (0, 0)) from heap_alloc_new _ _)
  clear hb
  go_upto_region 9 with ((with_reducible refine wpList_store_row rfl 38 (.tmp 6) (.tmp 27) rfl rfl V.heap.size rfl 38 #[.int .i64 0, .int .i64 0, .int .u32 0, .int .u32 0, .int .i64 0, .bool false, .slice none 0 0, .int .i64 0, .int .u32 0, .int .u32 0, .int .i64 0, .int .i64 0, .int .u32 0, .int .i64 0, .int .i64 0, .int .i64 0, .int .u32 0, .int .u64 0, .int .u64 0, .int .u64 0, .int .u64 0, .int .i64 0, .int .i64 0, .int .i64 0, .int .u32 0, .int .u32 0, .int .u8 0, .int .i64 0, .int .u32 0, .int .i64 0, .int .u32 0, .int .u32 0] #[.int .i64 2, .int .i64 0, .int .u32 0, .int .u32 0, .int .i64 0, .bool false, .slice none 0 0, .int .i64 0, .int .u32 0, .int .u32 0, .int .i64 0, .int .i64 0, .int .u32 0, .int .i64 0, .int .i64 0, .int .i64 0, .int .u32 0, .int .u64 0, .int .u64 0, .int .u64 0, .int .u64 0, .int .i64 0, .int .i64 0, .int .i64 0, .int .u32 0, .int .u32 0, .int .u8 0, .int .i64 0, .int .u32 0, .int .i64 0, .int .u32 0, .int .u32 0] rfl HAL.out HIK.out HSK.out HOK.out ?_))
  obtain ⟨g, hg⟩ : ∃ g, g = V.heap.size := ⟨_, rfl⟩
  obtain ⟨Y, hY⟩ : ∃ Y, Y = (V.alloc (.cells #[.int .i64 0, .int .i64 0, .int .u32 0, .int .u32 0, .int .i64 0, .bool false, .slice none 0 0, .int .i64 0, .int .u32 0, .int .u32 0, .int .i64 0, .int .i64 0, .int .u32 0, .int .i64 0, .int .i64 0, .int .i64 0, .int .u32 0, .int .u64 0, .int .u64 0, .int .u64 0, .int .u64 0, .int .i64 0, .int .i64 0, .int .i64 0, .int .u32 0, .int .u32 0, .int .u8 0, .int .i64 0, .int .u32 0, .int .i64 0, .int .u32 0, .int .u32 0] 38)).setRow V.heap.size #[.int .i64 2, .int .i64 0, .int .u32 0, .int .u32 0, .int .i64 0, .bool false, .slice none 0 0, .int .i64 0, .int .u32 0, .int .u32 0, .int .i64 0, .int .i64 0, .int .u32 0, .int .i64 0, .int .i64 0, .int .i64 0, .int .u32 0, .int .u64 0, .int .u64 0, .int .u64 0, .int .u64 0, .int .i64 0, .int .i64 0, .int .i64 0, .int .u32 0, .int .u32 0, .int .u8 0, .int .i64 0, .int .u32 0, .int .i64 0, .int .u32 0, .int .u32 0] := ⟨_, rfl⟩
  have hgY : BoxM g (Ms.m0 2) none 0 Y := by rw [hY, hg]; exact setRow_heap _ _ _ _ _ _ HAL.out
  have hbY : Below V.heap.size V Y := by rw [hY]; exact below_setRow ((Below.refl _ _).alloc (Nat.le_refl _) _) (Nat.le_refl _)
  have HGY := Lib.hid hgY
  have HBY := Lib.hid (HB2.out.trans (hbY.mono HB2.out.size))
  have HZY := Lib.hid (HZ2.out.later hbY)
  have HGW := Lib.hid (show W.heap.size < g by rw [hg]; exact (Array.getElem?_eq_some_iff.1 HZ2.out).1)
  have x0 : Y.cell? ⟨g, 0, none⟩ = some (.int .i64 2) := hgY.cell rfl
  rw [← hY, ← hg]
  clear hY hg hgY hbY
  go_wp2_with fail
  rw [← HTL.out]
  refine (HRD.out Y).mono ?_
  rintro e X ⟨rfl, hb⟩
  have HGX := Lib.hid (HGY.out.later hb)
  have HXB := Lib.hid (HBY.out.trans (hb.mono HBY.out.size))
  have HZX := Lib.hid (HZY.out.later hb)
  obtain ⟨sa, hsa⟩ : ∃ a : Option Addr, a = none := ⟨_, rfl⟩
  obtain ⟨sc, hsc⟩ : ∃ n : Nat, n = 0 := ⟨_, rfl⟩
  have x0x : X.cell? ⟨g, 0, none⟩ = some (.int .i64 2) := HGX.out.cell rfl
  have f0x : X.frozen? ⟨g, 0, none⟩ = false := HGX.out.frz 0
  have x7 : X.cell? ⟨g, 7, none⟩ = some (.int .i64 0) := HGX.out.cell rfl
  have f7 : X.frozen? ⟨g, 7, none⟩ = false := HGX.out.frz 7
  have x8 : X.cell? ⟨g, 8, none⟩ = some (.int .u32 0) := HGX.out.cell rfl
  have f8 : X.frozen? ⟨g, 8, none⟩ = false := HGX.out.frz 8
  have x9 : X.cell? ⟨g, 9, none⟩ = some (.int .u32 0) := HGX.out.cell rfl
  have f9 : X.frozen? ⟨g, 9, none⟩ = false := HGX.out.frz 9
  clear hb x0
  go_upto_region 25 with fail
  obtain ⟨Z, hZ⟩ : ∃ Z, Z = (((X.setCell ⟨g, 7, none⟩ (.int .i64 r.org)).setCell ⟨g, 8, none⟩ (.int .u32 r.ep)).setCell ⟨g, 9, none⟩ (.int .u32 r.sq)) := ⟨_, rfl⟩
  have HBM := Lib.hid (show BoxM g M none 0 Z from by
    rw [HM.out, hZ]
    have h := (heap_setCell_same _ g 9 _ _ (.int .u32 r.sq) (heap_setCell_same _ g 8 _ _ (.int .u32 r.ep) (heap_setCell_same _ g 7 _ _ (.int .i64 r.org) HGX.out)))
    unfold Ms.cs at h
    simp only [List.setIfInBounds_toArray, List.set_cons_succ, List.set_cons_zero] at h
    unfold BoxM Ms.cs
    exact h)
  have hgw := HGW.out
  have HZB := Lib.hid (show Below W.heap.size W Z from by
    rw [hZ]
    repeat (with_reducible refine Below.setCell ?_ (by simp only; omega) _)
    exact HXB.out)
  have HRC := Lib.hid (show Z.heap[W.heap.size]? = some (.cells (Ms.zero.cs none 0) 38 (0, 0)) from by
    rw [hZ]
    have hne : W.heap.size ≠ g := by omega
    iterate 3 rw [heap_setCell_other _ _ _ _ hne]
    exact HZX.out)
  have HAR := Lib.hid (show ARow Z (W.heap.size + 1) none 0 M.rc.adjs from by
    rw [HM.out]
    exact arow_nil _ _)
  clear hgw
  rw [← hZ]
  clear hZ x0x f0x x7 f7 x8 f8 x9 f9
  rw [← hsa, ← hsc] at HBM HAR
  clear hsa hsc
  cases ro with
  | false =>
    have hd0 : d ≠ 0 := of_decide_eq_false HRO.out.symm
    have e1 : (d == 0) = false := by rw [beq_eq_false_iff_ne]; exact hd0
    have e2 : (d != 0) = true := by rw [bne_iff_ne]; exact hd0
    have HRM := Lib.hid (show decM s = Ms.zero ∧ decME s = 4 from ⟨HDM.out, HDE.out⟩)
    clear hd0
    go_wp2_with ((with_reducible refine wpList_store_row rfl 38 (.tmp 2) (.tmp 132) rfl rfl W.heap.size rfl 38 (Ms.zero.cs none 0) #[.int .i64 0, .int .i64 0, .int .u32 0, .int .u32 0, .int .i64 0, .bool false, .slice none 0 0, .int .i64 0, .int .u32 0, .int .u32 0, .int .i64 0, .int .i64 0, .int .u32 0, .int .i64 0, .int .i64 0, .int .i64 0, .int .u32 0, .int .u64 0, .int .u64 0, .int .u64 0, .int .u64 0, .int .i64 0, .int .i64 0, .int .i64 0, .int .u32 0, .int .u32 0, .int .u8 0, .int .i64 0, .int .u32 0, .int .i64 0, .int .u32 0, .int .u32 0] rfl HRC.out info_zero HSS.out zero_one ?_))
    (try simp only [Exit.inBlock, Exit.then])
    refine bodyPost_ret (v := .tuple #[.agg (Ms.zero.cs none 0), .int .i64 4]) (results_cell rfl rfl rfl (box_setRow (n := Ms.zero) (sa := none) (sc := 0) (m := Ms.zero) HRC.out) Tryz.underlying38 rfl (info_msg Ms.zero none 0)) rfl ?_
    show DecM W (decM s) (decME s) _ _
    rw [HRM.out.1, HRM.out.2]
    exact ⟨none, 0, rfl, arow_nil _ _, below_setRow HZB.out (Nat.le_refl _)⟩
  | true =>
    obtain rfl : d = 0 := of_decide_eq_true HRO.out.symm
    have HCH := Lib.hid (rmcheck_any M sa sc Z HGO.out (ARow.adjs HAR.out) (by have := HGA.out; unfold maxLen; omega))
    have HCC0 := Lib.hid (block_cells HBM.out)
    have HS1 := Lib.hid (HSZ.out sa sc)
    go_wp2_with ((with_reducible refine wpList_load_csg (by kernel_rfl) 38 (.tmp 6) rfl ⟨g, 0, none⟩ rfl (M.cs sa sc).toList _ HCC0.out Tryz.underlying38 rfl HS1.out ?_); rw [Array.toArray_toList])
    unfold Ms.ag at HCH
    refine HCH.out.mono ?_
    rintro e Z2 ⟨rfl, hb⟩
    have HZ2B := Lib.hid (HZB.out.trans (hb.mono HZB.out.size))
    have HBM2 := Lib.hid (HBM.out.later hb)
    have HAR2 := Lib.hid (Row.later HAR.out hb)
    have HRC2 := Lib.hid (show Z2.heap[W.heap.size]? = some (.cells (Ms.zero.cs none 0) 38 (0, 0)) from (hb.block _ (Array.getElem?_eq_some_iff.1 HRC.out).1).trans HRC.out)
    clear hb HCH
    cases hc : M.chk with
    | false =>
      have hme : M.err = 2 := by unfold Ms.err; rw [hc]; rfl
      have HRM := Lib.hid (show decM s = Ms.zero ∧ decME s = 4 from ⟨by rw [HDM.out, hc]; rfl, by rw [HDE.out, hc]; rfl⟩)
      rw [hme]
      clear hme hc
      go_wp2_with ((with_reducible refine wpList_store_row rfl 38 (.tmp 2) (.tmp 132) rfl rfl W.heap.size rfl 38 (Ms.zero.cs none 0) #[.int .i64 0, .int .i64 0, .int .u32 0, .int .u32 0, .int .i64 0, .bool false, .slice none 0 0, .int .i64 0, .int .u32 0, .int .u32 0, .int .i64 0, .int .i64 0, .int .u32 0, .int .i64 0, .int .i64 0, .int .i64 0, .int .u32 0, .int .u64 0, .int .u64 0, .int .u64 0, .int .u64 0, .int .i64 0, .int .i64 0, .int .i64 0, .int .u32 0, .int .u32 0, .int .u8 0, .int .i64 0, .int .u32 0, .int .i64 0, .int .u32 0, .int .u32 0] rfl HRC2.out info_zero HSS.out zero_one ?_))
      (try simp only [Exit.inBlock, Exit.then])
      refine bodyPost_ret (v := .tuple #[.agg (Ms.zero.cs none 0), .int .i64 4]) (results_cell rfl rfl rfl (box_setRow (n := Ms.zero) (sa := none) (sc := 0) (m := Ms.zero) HRC2.out) Tryz.underlying38 rfl (info_msg Ms.zero none 0)) rfl ?_
      show DecM W (decM s) (decME s) _ _
      rw [HRM.out.1, HRM.out.2]
      exact ⟨none, 0, rfl, arow_nil _ _, below_setRow HZ2B.out (Nat.le_refl _)⟩
    | true =>
      have hme : M.err = 0 := by unfold Ms.err; rw [hc]; rfl
      have HRM := Lib.hid (show decM s = M ∧ decME s = 0 from ⟨by rw [HDM.out, hc]; rfl, by rw [HDE.out, hc]; rfl⟩)
      rw [hme]
      clear hme hc
      have HCC := Lib.hid (block_cells HBM2.out)
      have HS2 := Lib.hid (HSZ'.out sa sc)
      have HS3 := Lib.hid (HSM.out sa sc)
      have HS4 := Lib.hid (HONE.out sa sc)
      go_wp2_with (first | ((with_reducible refine wpList_load_cs rfl 38 (.tmp 6) rfl ⟨g, 0, none⟩ rfl (M.cs sa sc).toList _ HCC.out Tryz.underlying38 rfl HS1.out ?_); rw [Array.toArray_toList]) | (with_reducible refine wpList_store_row rfl 38 (.tmp 2) (.tmp 133) rfl rfl W.heap.size rfl 38 (Ms.zero.cs none 0) (M.cs sa sc) rfl HRC2.out HS2.out HS3.out HS4.out ?_))
      (try simp only [Exit.inBlock, Exit.then])
      refine bodyPost_ret (v := .tuple #[.agg (M.cs sa sc), .int .i64 0]) (results_cell rfl rfl rfl (setRow_heap _ _ _ _ _ _ HRC2.out) Tryz.underlying38 rfl (info_msg M sa sc)) rfl ?_
      show DecM W (decM s) (decME s) _ _
      rw [HRM.out.1, HRM.out.2]
      refine ⟨sa, sc, rfl, ?_, below_setRow HZ2B.out (Nat.le_refl _)⟩
      refine (Row.more HAR2.out (Nat.le_succ _)).same fun k hk => ?_
      have := (Row.lt HAR2.out k hk).1
      exact setRow_other _ _ _ _ (by omega)
set_option maxHeartbeats 12800000 in
theorem rmdec3 (s : ByteArray) (W : World) (h1 : 3 ≤ s.size) (h2 : s.size ≤ 512) (h3 : openE s = 0) (hk : kindOf (openS s).data.toList = 3) : Calls Tryz.prog 5 #[.string s] W (DecM W (decM s) (decME s)) := by
  obtain ⟨hsl, hsz⟩ := open_sealB h3
  obtain ⟨os, hos⟩ : ∃ o, o = openS s := ⟨_, rfl⟩
  rw [← hos] at hk hsz
  have ho1 : 1 ≤ os.size := by omega
  have ho2 : os.size ≤ 510 := by omega
  have ho3 : (1 : Int) ≤ (os.size : Int) := by omega
  have hx0 : (os[0].toNat : Int) = 3 := (kindOf_head (s := os) (by omega)).symm.trans hk
  obtain ⟨tl, htl⟩ : ∃ t, t = os.extract 1 os.size := ⟨_, rfl⟩
  have htl2 : tl.data.toList = os.data.toList.tail := by rw [htl]; exact tail_list os
  have hts : tl.size ≤ 1000 := by rw [htl, ByteArray.size_extract]; omega
  have hbo : bodyOk os.data.toList = (redOk 3 tl.data.toList && (Ms.got 3 tl.data.toList).chk) := by
    unfold bodyOk
    rw [hk, ← htl2]
    rfl
  have hde : decME s = if (redOk 3 tl.data.toList && (Ms.got 3 tl.data.toList).chk) = true then 0 else 4 := by
    unfold decME
    rw [if_neg (by omega), if_neg (by omega), if_pos h3, ← hos, hbo]
  have hdm : decM s = if decME s = 0 then Ms.got 3 tl.data.toList else Ms.zero := by
    unfold decM
    rw [← hos, hk, ← htl2]
  rw [hde] at hdm
  have hgo := got_ok 3 tl.data.toList (by unfold I64; omega)
  have hga := got_adjs 3 tl.data.toList
  obtain ⟨M, hM⟩ : ∃ M, M = Ms.got 3 tl.data.toList := ⟨_, rfl⟩
  obtain ⟨ro, hro⟩ : ∃ b, b = redOk 3 tl.data.toList := ⟨_, rfl⟩
  rw [← hM, ← hro] at hde hdm
  rw [← hM] at hgo hga
  have hdl : decide (512 < (s.size : Int)) = false := decide_eq_false (by omega)
  have hdl2 : decide ((s.size : Int) < 3) = false := decide_eq_false (by omega)
  obtain ⟨r, hr⟩ : ∃ r, r = decH tl := ⟨_, rfl⟩
  obtain ⟨d, hd⟩ : ∃ d, d = decHE tl := ⟨_, rfl⟩
  have HRO := Lib.hid (show ro = decide (d = 0) by rw [hro, hd]; show decide (decHE (bs tl.data.toList) = 0) = _; rw [bs_of])
  have HM := Lib.hid (show M = ({ Ms.zero with kd := 3, hd := r } : Ms) by rw [hM, hr]; show ({ Ms.zero with kd := 3, hd := decH (bs tl.data.toList) } : Ms) = _; rw [bs_of])
  have HRD := Lib.hid (fun V : World => show Calls Tryz.prog 16 #[.string tl] V (fun e X => e = .returned (.tuple #[.agg #[.int .i64 r.wid, .int .i64 r.set, .int .u32 r.ent, .int .i64 r.hops, .int .i64 r.src, .int .i64 r.grp, .int .u32 r.id, .int .u64 r.bits.a, .int .u64 r.bits.b, .int .u64 r.bits.c, .int .u64 r.bits.d], .int .i64 d]) ∧ Below V.heap.size V X) from by
    have h := rhdecode_any tl V (by omega)
    rw [← hr, ← hd] at h
    exact h)
  obtain ⟨W1, hW1⟩ : ∃ W1, W1 = W.alloc (.cells #[.int .i64 0, .int .i64 0, .int .u32 0, .int .u32 0, .int .i64 0, .bool false, .slice none 0 0, .int .i64 0, .int .u32 0, .int .u32 0, .int .i64 0, .int .i64 0, .int .u32 0, .int .i64 0, .int .i64 0, .int .i64 0, .int .u32 0, .int .u64 0, .int .u64 0, .int .u64 0, .int .u64 0, .int .i64 0, .int .i64 0, .int .i64 0, .int .u32 0, .int .u32 0, .int .u8 0, .int .i64 0, .int .u32 0, .int .i64 0, .int .u32 0, .int .u32 0] 38) := ⟨_, rfl⟩
  have hb1 : Below W.heap.size W W1 := by rw [hW1]; exact (Below.refl _ _).alloc (Nat.le_refl _) _
  have hbx : BoxM W.heap.size Ms.zero none 0 W1 := by rw [hW1]; exact heap_alloc_new _ _
  have HBX := Lib.hid hbx
  have HBC := Lib.hid (show W1.heap[W.heap.size]? = some (.cells (Ms.zero.cs none 0) 38 (0, 0)) from hbx)
  have HSS := Lib.hid (show (Ms.zero.cs none 0).size = (#[.int .i64 0, .int .i64 0, .int .u32 0, .int .u32 0, .int .i64 0, .bool false, .slice none 0 0, .int .i64 0, .int .u32 0, .int .u32 0, .int .i64 0, .int .i64 0, .int .u32 0, .int .i64 0, .int .i64 0, .int .i64 0, .int .u32 0, .int .u64 0, .int .u64 0, .int .u64 0, .int .u64 0, .int .i64 0, .int .i64 0, .int .i64 0, .int .u32 0, .int .u32 0, .int .u8 0, .int .i64 0, .int .u32 0, .int .i64 0, .int .u32 0, .int .u32 0] : Array Value).size from rfl)
  have HW1 := Lib.hid hW1
  have HB1 := Lib.hid hb1
  have HOS := Lib.hid hos
  have HOE := Lib.hid h3
  have HOP := Lib.hid (ropen_any s W1 (by omega))
  have HIK := Lib.hid (show (Tryz.prog.info? 38).map (·.size) = some (#[.int .i64 3, .int .i64 0, .int .u32 0, .int .u32 0, .int .i64 0, .bool false, .slice none 0 0, .int .i64 0, .int .u32 0, .int .u32 0, .int .i64 0, .int .i64 0, .int .u32 0, .int .i64 0, .int .i64 0, .int .i64 0, .int .u32 0, .int .u64 0, .int .u64 0, .int .u64 0, .int .u64 0, .int .i64 0, .int .i64 0, .int .i64 0, .int .u32 0, .int .u32 0, .int .u8 0, .int .i64 0, .int .u32 0, .int .i64 0, .int .u32 0, .int .u32 0] : Array Value).size from info_msg' (Ms.m0 3) none 0)
  have HSK := Lib.hid (show (#[.int .i64 0, .int .i64 0, .int .u32 0, .int .u32 0, .int .i64 0, .bool false, .slice none 0 0, .int .i64 0, .int .u32 0, .int .u32 0, .int .i64 0, .int .i64 0, .int .u32 0, .int .i64 0, .int .i64 0, .int .i64 0, .int .u32 0, .int .u64 0, .int .u64 0, .int .u64 0, .int .u64 0, .int .i64 0, .int .i64 0, .int .i64 0, .int .u32 0, .int .u32 0, .int .u8 0, .int .i64 0, .int .u32 0, .int .i64 0, .int .u32 0, .int .u32 0] : Array Value).size = (#[.int .i64 3, .int .i64 0, .int .u32 0, .int .u32 0, .int .i64 0, .bool false, .slice none 0 0, .int .i64 0, .int .u32 0, .int .u32 0, .int .i64 0, .int .i64 0, .int .u32 0, .int .i64 0, .int .i64 0, .int .i64 0, .int .u32 0, .int .u64 0, .int .u64 0, .int .u64 0, .int .u64 0, .int .i64 0, .int .i64 0, .int .i64 0, .int .u32 0, .int .u32 0, .int .u8 0, .int .i64 0, .int .u32 0, .int .i64 0, .int .u32 0, .int .u32 0] : Array Value).size from rfl)
  have HOK := Lib.hid (show (#[.int .i64 3, .int .i64 0, .int .u32 0, .int .u32 0, .int .i64 0, .bool false, .slice none 0 0, .int .i64 0, .int .u32 0, .int .u32 0, .int .i64 0, .int .i64 0, .int .u32 0, .int .i64 0, .int .i64 0, .int .i64 0, .int .u32 0, .int .u64 0, .int .u64 0, .int .u64 0, .int .u64 0, .int .i64 0, .int .i64 0, .int .i64 0, .int .u32 0, .int .u32 0, .int .u8 0, .int .i64 0, .int .u32 0, .int .i64 0, .int .u32 0, .int .u32 0] : Array Value).all (·.oneCell') = true from cs_one (Ms.m0 3) none 0)
  have HGO := Lib.hid hgo
  have HGA := Lib.hid hga
  have HDE := Lib.hid hde
  have HDM := Lib.hid hdm
  have HSZ := Lib.hid (fun sa sc => info_msg M sa sc)
  have HSZ' := Lib.hid (fun sa sc => info_msg' M sa sc)
  have HONE := Lib.hid (fun sa sc => cs_one M sa sc)
  have HSM := Lib.hid (fun sa sc => show (Ms.zero.cs none 0).size = (M.cs sa sc).size from rfl)
  have HTL := Lib.hid htl
  have hos1 : 0 < os.size := by omega
  have HTS := Lib.hid hts
  clear hW1 hb1 hbx hos h3 hk hbo hM hro hgo hga hde hdm htl htl2 hts hsl hr hd
  go_enter Tryz.func5, Tryz.ntmps5
  go_upto_region 1 with fail
  rw [← HW1.out]
  go_wp2_with fail
  refine HOP.out.mono ?_
  rintro e V ⟨rfl, hb⟩
  rw [← HOS.out, HOE.out]
  have HB2 := Lib.hid (HB1.out.trans (hb.mono HB1.out.size))
  have HZ2 := Lib.hid (HBX.out.later hb)
  have HAL := Lib.hid (show (V.alloc (.cells #[.int .i64 0, .int .i64 0, .int .u32 0, .int .u32 0, .int .i64 0, .bool false, .slice none 0 0, .int .i64 0, .int .u32 0, .int .u32 0, .int .i64 0, .int .i64 0, .int .u32 0, .int .i64 0, .int .i64 0, .int .i64 0, .int .u32 0, .int .u64 0, .int .u64 0, .int .u64 0, .int .u64 0, .int .i64 0, .int .i64 0, .int .i64 0, .int .u32 0, .int .u32 0, .int .u8 0, .int .i64 0, .int .u32 0, .int .i64 0, .int .u32 0, .int .u32 0] 38)).heap[V.heap.size]? = some (.cells #[.int .i64 0, .int .i64 0, .int .u32 0, .int .u32 0, .int .i64 0, .bool false, .slice none 0 0, .int .i64 0, .int .u32 0, .int .u32 0, .int .i64 0, .int .i64 0, .int .u32 0, .int .i64 0, .int .i64 0, .int .i64 0, .int .u32 0, .int .u64 0, .int .u64 0, .int .u64 0, .int .u64 0, .int .i64 0, .int .i64 0, .int .i64 0, .int .u32 0, .int .u32 0, .int .u8 0, .int .i64 0, .int .u32 0, .int .i64 0, .int .u32 0, .int .u32 0] 38 (0, 0)) from heap_alloc_new _ _)
  clear hb
  go_upto_region 9 with ((with_reducible refine wpList_store_row rfl 38 (.tmp 6) (.tmp 27) rfl rfl V.heap.size rfl 38 #[.int .i64 0, .int .i64 0, .int .u32 0, .int .u32 0, .int .i64 0, .bool false, .slice none 0 0, .int .i64 0, .int .u32 0, .int .u32 0, .int .i64 0, .int .i64 0, .int .u32 0, .int .i64 0, .int .i64 0, .int .i64 0, .int .u32 0, .int .u64 0, .int .u64 0, .int .u64 0, .int .u64 0, .int .i64 0, .int .i64 0, .int .i64 0, .int .u32 0, .int .u32 0, .int .u8 0, .int .i64 0, .int .u32 0, .int .i64 0, .int .u32 0, .int .u32 0] #[.int .i64 3, .int .i64 0, .int .u32 0, .int .u32 0, .int .i64 0, .bool false, .slice none 0 0, .int .i64 0, .int .u32 0, .int .u32 0, .int .i64 0, .int .i64 0, .int .u32 0, .int .i64 0, .int .i64 0, .int .i64 0, .int .u32 0, .int .u64 0, .int .u64 0, .int .u64 0, .int .u64 0, .int .i64 0, .int .i64 0, .int .i64 0, .int .u32 0, .int .u32 0, .int .u8 0, .int .i64 0, .int .u32 0, .int .i64 0, .int .u32 0, .int .u32 0] rfl HAL.out HIK.out HSK.out HOK.out ?_))
  obtain ⟨g, hg⟩ : ∃ g, g = V.heap.size := ⟨_, rfl⟩
  obtain ⟨Y, hY⟩ : ∃ Y, Y = (V.alloc (.cells #[.int .i64 0, .int .i64 0, .int .u32 0, .int .u32 0, .int .i64 0, .bool false, .slice none 0 0, .int .i64 0, .int .u32 0, .int .u32 0, .int .i64 0, .int .i64 0, .int .u32 0, .int .i64 0, .int .i64 0, .int .i64 0, .int .u32 0, .int .u64 0, .int .u64 0, .int .u64 0, .int .u64 0, .int .i64 0, .int .i64 0, .int .i64 0, .int .u32 0, .int .u32 0, .int .u8 0, .int .i64 0, .int .u32 0, .int .i64 0, .int .u32 0, .int .u32 0] 38)).setRow V.heap.size #[.int .i64 3, .int .i64 0, .int .u32 0, .int .u32 0, .int .i64 0, .bool false, .slice none 0 0, .int .i64 0, .int .u32 0, .int .u32 0, .int .i64 0, .int .i64 0, .int .u32 0, .int .i64 0, .int .i64 0, .int .i64 0, .int .u32 0, .int .u64 0, .int .u64 0, .int .u64 0, .int .u64 0, .int .i64 0, .int .i64 0, .int .i64 0, .int .u32 0, .int .u32 0, .int .u8 0, .int .i64 0, .int .u32 0, .int .i64 0, .int .u32 0, .int .u32 0] := ⟨_, rfl⟩
  have hgY : BoxM g (Ms.m0 3) none 0 Y := by rw [hY, hg]; exact setRow_heap _ _ _ _ _ _ HAL.out
  have hbY : Below V.heap.size V Y := by rw [hY]; exact below_setRow ((Below.refl _ _).alloc (Nat.le_refl _) _) (Nat.le_refl _)
  have HGY := Lib.hid hgY
  have HBY := Lib.hid (HB2.out.trans (hbY.mono HB2.out.size))
  have HZY := Lib.hid (HZ2.out.later hbY)
  have HGW := Lib.hid (show W.heap.size < g by rw [hg]; exact (Array.getElem?_eq_some_iff.1 HZ2.out).1)
  have x0 : Y.cell? ⟨g, 0, none⟩ = some (.int .i64 3) := hgY.cell rfl
  rw [← hY, ← hg]
  clear hY hg hgY hbY
  go_wp2_with fail
  rw [← HTL.out]
  refine (HRD.out Y).mono ?_
  rintro e X ⟨rfl, hb⟩
  have HGX := Lib.hid (HGY.out.later hb)
  have HXB := Lib.hid (HBY.out.trans (hb.mono HBY.out.size))
  have HZX := Lib.hid (HZY.out.later hb)
  obtain ⟨sa, hsa⟩ : ∃ a : Option Addr, a = none := ⟨_, rfl⟩
  obtain ⟨sc, hsc⟩ : ∃ n : Nat, n = 0 := ⟨_, rfl⟩
  have x0x : X.cell? ⟨g, 0, none⟩ = some (.int .i64 3) := HGX.out.cell rfl
  have f0x : X.frozen? ⟨g, 0, none⟩ = false := HGX.out.frz 0
  have x10 : X.cell? ⟨g, 10, none⟩ = some (.int .i64 0) := HGX.out.cell rfl
  have f10 : X.frozen? ⟨g, 10, none⟩ = false := HGX.out.frz 10
  have x11 : X.cell? ⟨g, 11, none⟩ = some (.int .i64 0) := HGX.out.cell rfl
  have f11 : X.frozen? ⟨g, 11, none⟩ = false := HGX.out.frz 11
  have x12 : X.cell? ⟨g, 12, none⟩ = some (.int .u32 0) := HGX.out.cell rfl
  have f12 : X.frozen? ⟨g, 12, none⟩ = false := HGX.out.frz 12
  have x13 : X.cell? ⟨g, 13, none⟩ = some (.int .i64 0) := HGX.out.cell rfl
  have f13 : X.frozen? ⟨g, 13, none⟩ = false := HGX.out.frz 13
  have x14 : X.cell? ⟨g, 14, none⟩ = some (.int .i64 0) := HGX.out.cell rfl
  have f14 : X.frozen? ⟨g, 14, none⟩ = false := HGX.out.frz 14
  have x15 : X.cell? ⟨g, 15, none⟩ = some (.int .i64 0) := HGX.out.cell rfl
  have f15 : X.frozen? ⟨g, 15, none⟩ = false := HGX.out.frz 15
  have x16 : X.cell? ⟨g, 16, none⟩ = some (.int .u32 0) := HGX.out.cell rfl
  have f16 : X.frozen? ⟨g, 16, none⟩ = false := HGX.out.frz 16
  have x17 : X.cell? ⟨g, 17, none⟩ = some (.int .u64 0) := HGX.out.cell rfl
  have f17 : X.frozen? ⟨g, 17, none⟩ = false := HGX.out.frz 17
  have x18 : X.cell? ⟨g, 18, none⟩ = some (.int .u64 0) := HGX.out.cell rfl
  have f18 : X.frozen? ⟨g, 18, none⟩ = false := HGX.out.frz 18
  have x19 : X.cell? ⟨g, 19, none⟩ = some (.int .u64 0) := HGX.out.cell rfl
  have f19 : X.frozen? ⟨g, 19, none⟩ = false := HGX.out.frz 19
  have x20 : X.cell? ⟨g, 20, none⟩ = some (.int .u64 0) := HGX.out.cell rfl
  have f20 : X.frozen? ⟨g, 20, none⟩ = false := HGX.out.frz 20
  clear hb x0
  go_upto_region 25 with fail
  obtain ⟨Z, hZ⟩ : ∃ Z, Z = (((((((((((X.setCell ⟨g, 10, none⟩ (.int .i64 r.wid)).setCell ⟨g, 11, none⟩ (.int .i64 r.set)).setCell ⟨g, 12, none⟩ (.int .u32 r.ent)).setCell ⟨g, 13, none⟩ (.int .i64 r.hops)).setCell ⟨g, 14, none⟩ (.int .i64 r.src)).setCell ⟨g, 15, none⟩ (.int .i64 r.grp)).setCell ⟨g, 16, none⟩ (.int .u32 r.id)).setCell ⟨g, 17, none⟩ (.int .u64 r.bits.a)).setCell ⟨g, 18, none⟩ (.int .u64 r.bits.b)).setCell ⟨g, 19, none⟩ (.int .u64 r.bits.c)).setCell ⟨g, 20, none⟩ (.int .u64 r.bits.d)) := ⟨_, rfl⟩
  have HBM := Lib.hid (show BoxM g M none 0 Z from by
    rw [HM.out, hZ]
    have h := (heap_setCell_same _ g 20 _ _ (.int .u64 r.bits.d) (heap_setCell_same _ g 19 _ _ (.int .u64 r.bits.c) (heap_setCell_same _ g 18 _ _ (.int .u64 r.bits.b) (heap_setCell_same _ g 17 _ _ (.int .u64 r.bits.a) (heap_setCell_same _ g 16 _ _ (.int .u32 r.id) (heap_setCell_same _ g 15 _ _ (.int .i64 r.grp) (heap_setCell_same _ g 14 _ _ (.int .i64 r.src) (heap_setCell_same _ g 13 _ _ (.int .i64 r.hops) (heap_setCell_same _ g 12 _ _ (.int .u32 r.ent) (heap_setCell_same _ g 11 _ _ (.int .i64 r.set) (heap_setCell_same _ g 10 _ _ (.int .i64 r.wid) HGX.out)))))))))))
    unfold Ms.cs at h
    simp only [List.setIfInBounds_toArray, List.set_cons_succ, List.set_cons_zero] at h
    unfold BoxM Ms.cs
    exact h)
  have hgw := HGW.out
  have HZB := Lib.hid (show Below W.heap.size W Z from by
    rw [hZ]
    repeat (with_reducible refine Below.setCell ?_ (by simp only; omega) _)
    exact HXB.out)
  have HRC := Lib.hid (show Z.heap[W.heap.size]? = some (.cells (Ms.zero.cs none 0) 38 (0, 0)) from by
    rw [hZ]
    have hne : W.heap.size ≠ g := by omega
    iterate 11 rw [heap_setCell_other _ _ _ _ hne]
    exact HZX.out)
  have HAR := Lib.hid (show ARow Z (W.heap.size + 1) none 0 M.rc.adjs from by
    rw [HM.out]
    exact arow_nil _ _)
  clear hgw
  rw [← hZ]
  clear hZ x0x f0x x10 f10 x11 f11 x12 f12 x13 f13 x14 f14 x15 f15 x16 f16 x17 f17 x18 f18 x19 f19 x20 f20
  rw [← hsa, ← hsc] at HBM HAR
  clear hsa hsc
  cases ro with
  | false =>
    have hd0 : d ≠ 0 := of_decide_eq_false HRO.out.symm
    have e1 : (d == 0) = false := by rw [beq_eq_false_iff_ne]; exact hd0
    have e2 : (d != 0) = true := by rw [bne_iff_ne]; exact hd0
    have HRM := Lib.hid (show decM s = Ms.zero ∧ decME s = 4 from ⟨HDM.out, HDE.out⟩)
    clear hd0
    go_wp2_with ((with_reducible refine wpList_store_row rfl 38 (.tmp 2) (.tmp 132) rfl rfl W.heap.size rfl 38 (Ms.zero.cs none 0) #[.int .i64 0, .int .i64 0, .int .u32 0, .int .u32 0, .int .i64 0, .bool false, .slice none 0 0, .int .i64 0, .int .u32 0, .int .u32 0, .int .i64 0, .int .i64 0, .int .u32 0, .int .i64 0, .int .i64 0, .int .i64 0, .int .u32 0, .int .u64 0, .int .u64 0, .int .u64 0, .int .u64 0, .int .i64 0, .int .i64 0, .int .i64 0, .int .u32 0, .int .u32 0, .int .u8 0, .int .i64 0, .int .u32 0, .int .i64 0, .int .u32 0, .int .u32 0] rfl HRC.out info_zero HSS.out zero_one ?_))
    (try simp only [Exit.inBlock, Exit.then])
    refine bodyPost_ret (v := .tuple #[.agg (Ms.zero.cs none 0), .int .i64 4]) (results_cell rfl rfl rfl (box_setRow (n := Ms.zero) (sa := none) (sc := 0) (m := Ms.zero) HRC.out) Tryz.underlying38 rfl (info_msg Ms.zero none 0)) rfl ?_
    show DecM W (decM s) (decME s) _ _
    rw [HRM.out.1, HRM.out.2]
    exact ⟨none, 0, rfl, arow_nil _ _, below_setRow HZB.out (Nat.le_refl _)⟩
  | true =>
    obtain rfl : d = 0 := of_decide_eq_true HRO.out.symm
    have HCH := Lib.hid (rmcheck_any M sa sc Z HGO.out (ARow.adjs HAR.out) (by have := HGA.out; unfold maxLen; omega))
    have HCC0 := Lib.hid (block_cells HBM.out)
    have HS1 := Lib.hid (HSZ.out sa sc)
    go_wp2_with ((with_reducible refine wpList_load_csg (by kernel_rfl) 38 (.tmp 6) rfl ⟨g, 0, none⟩ rfl (M.cs sa sc).toList _ HCC0.out Tryz.underlying38 rfl HS1.out ?_); rw [Array.toArray_toList])
    unfold Ms.ag at HCH
    refine HCH.out.mono ?_
    rintro e Z2 ⟨rfl, hb⟩
    have HZ2B := Lib.hid (HZB.out.trans (hb.mono HZB.out.size))
    have HBM2 := Lib.hid (HBM.out.later hb)
    have HAR2 := Lib.hid (Row.later HAR.out hb)
    have HRC2 := Lib.hid (show Z2.heap[W.heap.size]? = some (.cells (Ms.zero.cs none 0) 38 (0, 0)) from (hb.block _ (Array.getElem?_eq_some_iff.1 HRC.out).1).trans HRC.out)
    clear hb HCH
    cases hc : M.chk with
    | false =>
      have hme : M.err = 2 := by unfold Ms.err; rw [hc]; rfl
      have HRM := Lib.hid (show decM s = Ms.zero ∧ decME s = 4 from ⟨by rw [HDM.out, hc]; rfl, by rw [HDE.out, hc]; rfl⟩)
      rw [hme]
      clear hme hc
      go_wp2_with ((with_reducible refine wpList_store_row rfl 38 (.tmp 2) (.tmp 132) rfl rfl W.heap.size rfl 38 (Ms.zero.cs none 0) #[.int .i64 0, .int .i64 0, .int .u32 0, .int .u32 0, .int .i64 0, .bool false, .slice none 0 0, .int .i64 0, .int .u32 0, .int .u32 0, .int .i64 0, .int .i64 0, .int .u32 0, .int .i64 0, .int .i64 0, .int .i64 0, .int .u32 0, .int .u64 0, .int .u64 0, .int .u64 0, .int .u64 0, .int .i64 0, .int .i64 0, .int .i64 0, .int .u32 0, .int .u32 0, .int .u8 0, .int .i64 0, .int .u32 0, .int .i64 0, .int .u32 0, .int .u32 0] rfl HRC2.out info_zero HSS.out zero_one ?_))
      (try simp only [Exit.inBlock, Exit.then])
      refine bodyPost_ret (v := .tuple #[.agg (Ms.zero.cs none 0), .int .i64 4]) (results_cell rfl rfl rfl (box_setRow (n := Ms.zero) (sa := none) (sc := 0) (m := Ms.zero) HRC2.out) Tryz.underlying38 rfl (info_msg Ms.zero none 0)) rfl ?_
      show DecM W (decM s) (decME s) _ _
      rw [HRM.out.1, HRM.out.2]
      exact ⟨none, 0, rfl, arow_nil _ _, below_setRow HZ2B.out (Nat.le_refl _)⟩
    | true =>
      have hme : M.err = 0 := by unfold Ms.err; rw [hc]; rfl
      have HRM := Lib.hid (show decM s = M ∧ decME s = 0 from ⟨by rw [HDM.out, hc]; rfl, by rw [HDE.out, hc]; rfl⟩)
      rw [hme]
      clear hme hc
      have HCC := Lib.hid (block_cells HBM2.out)
      have HS2 := Lib.hid (HSZ'.out sa sc)
      have HS3 := Lib.hid (HSM.out sa sc)
      have HS4 := Lib.hid (HONE.out sa sc)
      go_wp2_with (first | ((with_reducible refine wpList_load_cs rfl 38 (.tmp 6) rfl ⟨g, 0, none⟩ rfl (M.cs sa sc).toList _ HCC.out Tryz.underlying38 rfl HS1.out ?_); rw [Array.toArray_toList]) | (with_reducible refine wpList_store_row rfl 38 (.tmp 2) (.tmp 133) rfl rfl W.heap.size rfl 38 (Ms.zero.cs none 0) (M.cs sa sc) rfl HRC2.out HS2.out HS3.out HS4.out ?_))
      (try simp only [Exit.inBlock, Exit.then])
      refine bodyPost_ret (v := .tuple #[.agg (M.cs sa sc), .int .i64 0]) (results_cell rfl rfl rfl (setRow_heap _ _ _ _ _ _ HRC2.out) Tryz.underlying38 rfl (info_msg M sa sc)) rfl ?_
      show DecM W (decM s) (decME s) _ _
      rw [HRM.out.1, HRM.out.2]
      refine ⟨sa, sc, rfl, ?_, below_setRow HZ2B.out (Nat.le_refl _)⟩
      refine (Row.more HAR2.out (Nat.le_succ _)).same fun k hk => ?_
      have := (Row.lt HAR2.out k hk).1
      exact setRow_other _ _ _ _ (by omega)
set_option maxHeartbeats 12800000 in
theorem rmdec4 (s : ByteArray) (W : World) (h1 : 3 ≤ s.size) (h2 : s.size ≤ 512) (h3 : openE s = 0) (hk : kindOf (openS s).data.toList = 4) : Calls Tryz.prog 5 #[.string s] W (DecM W (decM s) (decME s)) := by
  obtain ⟨hsl, hsz⟩ := open_sealB h3
  obtain ⟨os, hos⟩ : ∃ o, o = openS s := ⟨_, rfl⟩
  rw [← hos] at hk hsz
  have ho1 : 1 ≤ os.size := by omega
  have ho2 : os.size ≤ 510 := by omega
  have ho3 : (1 : Int) ≤ (os.size : Int) := by omega
  have hx0 : (os[0].toNat : Int) = 4 := (kindOf_head (s := os) (by omega)).symm.trans hk
  obtain ⟨tl, htl⟩ : ∃ t, t = os.extract 1 os.size := ⟨_, rfl⟩
  have htl2 : tl.data.toList = os.data.toList.tail := by rw [htl]; exact tail_list os
  have hts : tl.size ≤ 1000 := by rw [htl, ByteArray.size_extract]; omega
  have hbo : bodyOk os.data.toList = (redOk 4 tl.data.toList && (Ms.got 4 tl.data.toList).chk) := by
    unfold bodyOk
    rw [hk, ← htl2]
    rfl
  have hde : decME s = if (redOk 4 tl.data.toList && (Ms.got 4 tl.data.toList).chk) = true then 0 else 4 := by
    unfold decME
    rw [if_neg (by omega), if_neg (by omega), if_pos h3, ← hos, hbo]
  have hdm : decM s = if decME s = 0 then Ms.got 4 tl.data.toList else Ms.zero := by
    unfold decM
    rw [← hos, hk, ← htl2]
  rw [hde] at hdm
  have hgo := got_ok 4 tl.data.toList (by unfold I64; omega)
  have hga := got_adjs 4 tl.data.toList
  obtain ⟨M, hM⟩ : ∃ M, M = Ms.got 4 tl.data.toList := ⟨_, rfl⟩
  obtain ⟨ro, hro⟩ : ∃ b, b = redOk 4 tl.data.toList := ⟨_, rfl⟩
  rw [← hM, ← hro] at hde hdm
  rw [← hM] at hgo hga
  have hdl : decide (512 < (s.size : Int)) = false := decide_eq_false (by omega)
  have hdl2 : decide ((s.size : Int) < 3) = false := decide_eq_false (by omega)
  obtain ⟨v0, hv0⟩ : ∃ v, v = seg tl.data.toList 0 1 := ⟨_, rfl⟩
  obtain ⟨v1, hv1⟩ : ∃ v, v = seg tl.data.toList 1 1 := ⟨_, rfl⟩
  obtain ⟨v2, hv2⟩ : ∃ v, v = seg tl.data.toList 2 1 := ⟨_, rfl⟩
  obtain ⟨v3, hv3⟩ : ∃ v, v = seg tl.data.toList 3 4 := ⟨_, rfl⟩
  obtain ⟨v4, hv4⟩ : ∃ v, v = seg tl.data.toList 7 4 := ⟨_, rfl⟩
  obtain ⟨v5, hv5⟩ : ∃ v, v = seg tl.data.toList 11 1 := ⟨_, rfl⟩
  have HRO := Lib.hid (show ro = decide (tl.size = 12) by rw [hro]; show decide (tl.data.toList.length = 12) = _; rw [size_len])
  have HM := Lib.hid (show M = ({ Ms.zero with kd := 4, dst := (v0 : Int), hops := (v1 : Int), wi := ⟨(v2 : Int), v3, v4, v5⟩ } : Ms) by rw [hM, hv0, hv1, hv2, hv3, hv4, hv5]; rfl)
  have HVS := Lib.hid (show v0 = seg tl.data.toList 0 1 ∧ v1 = seg tl.data.toList 1 1 ∧ v2 = seg tl.data.toList 2 1 ∧ v3 = seg tl.data.toList 3 4 ∧ v4 = seg tl.data.toList 7 4 ∧ v5 = seg tl.data.toList 11 1 from ⟨hv0, hv1, hv2, hv3, hv4, hv5⟩)
  obtain ⟨W1, hW1⟩ : ∃ W1, W1 = W.alloc (.cells #[.int .i64 0, .int .i64 0, .int .u32 0, .int .u32 0, .int .i64 0, .bool false, .slice none 0 0, .int .i64 0, .int .u32 0, .int .u32 0, .int .i64 0, .int .i64 0, .int .u32 0, .int .i64 0, .int .i64 0, .int .i64 0, .int .u32 0, .int .u64 0, .int .u64 0, .int .u64 0, .int .u64 0, .int .i64 0, .int .i64 0, .int .i64 0, .int .u32 0, .int .u32 0, .int .u8 0, .int .i64 0, .int .u32 0, .int .i64 0, .int .u32 0, .int .u32 0] 38) := ⟨_, rfl⟩
  have hb1 : Below W.heap.size W W1 := by rw [hW1]; exact (Below.refl _ _).alloc (Nat.le_refl _) _
  have hbx : BoxM W.heap.size Ms.zero none 0 W1 := by rw [hW1]; exact heap_alloc_new _ _
  have HBX := Lib.hid hbx
  have HBC := Lib.hid (show W1.heap[W.heap.size]? = some (.cells (Ms.zero.cs none 0) 38 (0, 0)) from hbx)
  have HSS := Lib.hid (show (Ms.zero.cs none 0).size = (#[.int .i64 0, .int .i64 0, .int .u32 0, .int .u32 0, .int .i64 0, .bool false, .slice none 0 0, .int .i64 0, .int .u32 0, .int .u32 0, .int .i64 0, .int .i64 0, .int .u32 0, .int .i64 0, .int .i64 0, .int .i64 0, .int .u32 0, .int .u64 0, .int .u64 0, .int .u64 0, .int .u64 0, .int .i64 0, .int .i64 0, .int .i64 0, .int .u32 0, .int .u32 0, .int .u8 0, .int .i64 0, .int .u32 0, .int .i64 0, .int .u32 0, .int .u32 0] : Array Value).size from rfl)
  have HW1 := Lib.hid hW1
  have HB1 := Lib.hid hb1
  have HOS := Lib.hid hos
  have HOE := Lib.hid h3
  have HOP := Lib.hid (ropen_any s W1 (by omega))
  have HIK := Lib.hid (show (Tryz.prog.info? 38).map (·.size) = some (#[.int .i64 4, .int .i64 0, .int .u32 0, .int .u32 0, .int .i64 0, .bool false, .slice none 0 0, .int .i64 0, .int .u32 0, .int .u32 0, .int .i64 0, .int .i64 0, .int .u32 0, .int .i64 0, .int .i64 0, .int .i64 0, .int .u32 0, .int .u64 0, .int .u64 0, .int .u64 0, .int .u64 0, .int .i64 0, .int .i64 0, .int .i64 0, .int .u32 0, .int .u32 0, .int .u8 0, .int .i64 0, .int .u32 0, .int .i64 0, .int .u32 0, .int .u32 0] : Array Value).size from info_msg' (Ms.m0 4) none 0)
  have HSK := Lib.hid (show (#[.int .i64 0, .int .i64 0, .int .u32 0, .int .u32 0, .int .i64 0, .bool false, .slice none 0 0, .int .i64 0, .int .u32 0, .int .u32 0, .int .i64 0, .int .i64 0, .int .u32 0, .int .i64 0, .int .i64 0, .int .i64 0, .int .u32 0, .int .u64 0, .int .u64 0, .int .u64 0, .int .u64 0, .int .i64 0, .int .i64 0, .int .i64 0, .int .u32 0, .int .u32 0, .int .u8 0, .int .i64 0, .int .u32 0, .int .i64 0, .int .u32 0, .int .u32 0] : Array Value).size = (#[.int .i64 4, .int .i64 0, .int .u32 0, .int .u32 0, .int .i64 0, .bool false, .slice none 0 0, .int .i64 0, .int .u32 0, .int .u32 0, .int .i64 0, .int .i64 0, .int .u32 0, .int .i64 0, .int .i64 0, .int .i64 0, .int .u32 0, .int .u64 0, .int .u64 0, .int .u64 0, .int .u64 0, .int .i64 0, .int .i64 0, .int .i64 0, .int .u32 0, .int .u32 0, .int .u8 0, .int .i64 0, .int .u32 0, .int .i64 0, .int .u32 0, .int .u32 0] : Array Value).size from rfl)
  have HOK := Lib.hid (show (#[.int .i64 4, .int .i64 0, .int .u32 0, .int .u32 0, .int .i64 0, .bool false, .slice none 0 0, .int .i64 0, .int .u32 0, .int .u32 0, .int .i64 0, .int .i64 0, .int .u32 0, .int .i64 0, .int .i64 0, .int .i64 0, .int .u32 0, .int .u64 0, .int .u64 0, .int .u64 0, .int .u64 0, .int .i64 0, .int .i64 0, .int .i64 0, .int .u32 0, .int .u32 0, .int .u8 0, .int .i64 0, .int .u32 0, .int .i64 0, .int .u32 0, .int .u32 0] : Array Value).all (·.oneCell') = true from cs_one (Ms.m0 4) none 0)
  have HGO := Lib.hid hgo
  have HGA := Lib.hid hga
  have HDE := Lib.hid hde
  have HDM := Lib.hid hdm
  have HSZ := Lib.hid (fun sa sc => info_msg M sa sc)
  have HSZ' := Lib.hid (fun sa sc => info_msg' M sa sc)
  have HONE := Lib.hid (fun sa sc => cs_one M sa sc)
  have HSM := Lib.hid (fun sa sc => show (Ms.zero.cs none 0).size = (M.cs sa sc).size from rfl)
  have HTL := Lib.hid htl
  have hos1 : 0 < os.size := by omega
  have HTS := Lib.hid hts
  clear hW1 hb1 hbx hos h3 hk hbo hM hro hgo hga hde hdm htl htl2 hts hsl hv0 hv1 hv2 hv3 hv4 hv5
  go_enter Tryz.func5, Tryz.ntmps5
  go_upto_region 1 with fail
  rw [← HW1.out]
  go_wp2_with fail
  refine HOP.out.mono ?_
  rintro e V ⟨rfl, hb⟩
  rw [← HOS.out, HOE.out]
  have HB2 := Lib.hid (HB1.out.trans (hb.mono HB1.out.size))
  have HZ2 := Lib.hid (HBX.out.later hb)
  have HAL := Lib.hid (show (V.alloc (.cells #[.int .i64 0, .int .i64 0, .int .u32 0, .int .u32 0, .int .i64 0, .bool false, .slice none 0 0, .int .i64 0, .int .u32 0, .int .u32 0, .int .i64 0, .int .i64 0, .int .u32 0, .int .i64 0, .int .i64 0, .int .i64 0, .int .u32 0, .int .u64 0, .int .u64 0, .int .u64 0, .int .u64 0, .int .i64 0, .int .i64 0, .int .i64 0, .int .u32 0, .int .u32 0, .int .u8 0, .int .i64 0, .int .u32 0, .int .i64 0, .int .u32 0, .int .u32 0] 38)).heap[V.heap.size]? = some (.cells #[.int .i64 0, .int .i64 0, .int .u32 0, .int .u32 0, .int .i64 0, .bool false, .slice none 0 0, .int .i64 0, .int .u32 0, .int .u32 0, .int .i64 0, .int .i64 0, .int .u32 0, .int .i64 0, .int .i64 0, .int .i64 0, .int .u32 0, .int .u64 0, .int .u64 0, .int .u64 0, .int .u64 0, .int .i64 0, .int .i64 0, .int .i64 0, .int .u32 0, .int .u32 0, .int .u8 0, .int .i64 0, .int .u32 0, .int .i64 0, .int .u32 0, .int .u32 0] 38 (0, 0)) from heap_alloc_new _ _)
  clear hb
  go_upto_region 9 with ((with_reducible refine wpList_store_row rfl 38 (.tmp 6) (.tmp 27) rfl rfl V.heap.size rfl 38 #[.int .i64 0, .int .i64 0, .int .u32 0, .int .u32 0, .int .i64 0, .bool false, .slice none 0 0, .int .i64 0, .int .u32 0, .int .u32 0, .int .i64 0, .int .i64 0, .int .u32 0, .int .i64 0, .int .i64 0, .int .i64 0, .int .u32 0, .int .u64 0, .int .u64 0, .int .u64 0, .int .u64 0, .int .i64 0, .int .i64 0, .int .i64 0, .int .u32 0, .int .u32 0, .int .u8 0, .int .i64 0, .int .u32 0, .int .i64 0, .int .u32 0, .int .u32 0] #[.int .i64 4, .int .i64 0, .int .u32 0, .int .u32 0, .int .i64 0, .bool false, .slice none 0 0, .int .i64 0, .int .u32 0, .int .u32 0, .int .i64 0, .int .i64 0, .int .u32 0, .int .i64 0, .int .i64 0, .int .i64 0, .int .u32 0, .int .u64 0, .int .u64 0, .int .u64 0, .int .u64 0, .int .i64 0, .int .i64 0, .int .i64 0, .int .u32 0, .int .u32 0, .int .u8 0, .int .i64 0, .int .u32 0, .int .i64 0, .int .u32 0, .int .u32 0] rfl HAL.out HIK.out HSK.out HOK.out ?_))
  obtain ⟨g, hg⟩ : ∃ g, g = V.heap.size := ⟨_, rfl⟩
  obtain ⟨Y, hY⟩ : ∃ Y, Y = (V.alloc (.cells #[.int .i64 0, .int .i64 0, .int .u32 0, .int .u32 0, .int .i64 0, .bool false, .slice none 0 0, .int .i64 0, .int .u32 0, .int .u32 0, .int .i64 0, .int .i64 0, .int .u32 0, .int .i64 0, .int .i64 0, .int .i64 0, .int .u32 0, .int .u64 0, .int .u64 0, .int .u64 0, .int .u64 0, .int .i64 0, .int .i64 0, .int .i64 0, .int .u32 0, .int .u32 0, .int .u8 0, .int .i64 0, .int .u32 0, .int .i64 0, .int .u32 0, .int .u32 0] 38)).setRow V.heap.size #[.int .i64 4, .int .i64 0, .int .u32 0, .int .u32 0, .int .i64 0, .bool false, .slice none 0 0, .int .i64 0, .int .u32 0, .int .u32 0, .int .i64 0, .int .i64 0, .int .u32 0, .int .i64 0, .int .i64 0, .int .i64 0, .int .u32 0, .int .u64 0, .int .u64 0, .int .u64 0, .int .u64 0, .int .i64 0, .int .i64 0, .int .i64 0, .int .u32 0, .int .u32 0, .int .u8 0, .int .i64 0, .int .u32 0, .int .i64 0, .int .u32 0, .int .u32 0] := ⟨_, rfl⟩
  have hgY : BoxM g (Ms.m0 4) none 0 Y := by rw [hY, hg]; exact setRow_heap _ _ _ _ _ _ HAL.out
  have hbY : Below V.heap.size V Y := by rw [hY]; exact below_setRow ((Below.refl _ _).alloc (Nat.le_refl _) _) (Nat.le_refl _)
  have HGY := Lib.hid hgY
  have HBY := Lib.hid (HB2.out.trans (hbY.mono HB2.out.size))
  have HZY := Lib.hid (HZ2.out.later hbY)
  have HGW := Lib.hid (show W.heap.size < g by rw [hg]; exact (Array.getElem?_eq_some_iff.1 HZ2.out).1)
  have x0 : Y.cell? ⟨g, 0, none⟩ = some (.int .i64 4) := hgY.cell rfl
  rw [← hY, ← hg]
  clear hY hg hgY hbY
  cases ro with
  | false =>
    have hn : ¬ tl.size = 12 := of_decide_eq_false HRO.out.symm
    have e1 : ((tl.size : Int) == 12) = false := by rw [beq_eq_false_iff_ne]; omega
    have HRM := Lib.hid (show decM s = Ms.zero ∧ decME s = 4 from ⟨HDM.out, HDE.out⟩)
    have HTE := Lib.hid (show os.extract 1 os.size = tl from HTL.out.symm)
    have e1' : (((os.extract 1 os.size).size : Int) == 12) = false := by rw [HTE.out]; exact e1
    have e1'' : ((os.size : Int) - 1 == 12) = false := by
      have h : tl.size = os.size - 1 := by rw [HTL.out, ByteArray.size_extract]; omega
      rw [beq_eq_false_iff_ne]; omega
    have e1n : ¬ (os.size : Int) - 1 = 12 := by rw [beq_eq_false_iff_ne] at e1''; exact e1''
    clear hn
    have HRC := Lib.hid (show Y.heap[W.heap.size]? = some (.cells (Ms.zero.cs none 0) 38 (0, 0)) from HZY.out)
    go_wp2_with ((with_reducible refine wpList_store_row rfl 38 (.tmp 2) (.tmp 30) rfl rfl W.heap.size rfl 38 (Ms.zero.cs none 0) #[.int .i64 0, .int .i64 0, .int .u32 0, .int .u32 0, .int .i64 0, .bool false, .slice none 0 0, .int .i64 0, .int .u32 0, .int .u32 0, .int .i64 0, .int .i64 0, .int .u32 0, .int .i64 0, .int .i64 0, .int .i64 0, .int .u32 0, .int .u64 0, .int .u64 0, .int .u64 0, .int .u64 0, .int .i64 0, .int .i64 0, .int .i64 0, .int .u32 0, .int .u32 0, .int .u8 0, .int .i64 0, .int .u32 0, .int .i64 0, .int .u32 0, .int .u32 0] rfl HRC.out info_zero HSS.out zero_one ?_))
    (try simp only [Exit.inBlock, Exit.then])
    refine bodyPost_ret (v := .tuple #[.agg (Ms.zero.cs none 0), .int .i64 4]) (results_cell rfl rfl rfl (box_setRow (n := Ms.zero) (sa := none) (sc := 0) (m := Ms.zero) HRC.out) Tryz.underlying38 rfl (info_msg Ms.zero none 0)) rfl ?_
    show DecM W (decM s) (decME s) _ _
    rw [HRM.out.1, HRM.out.2]
    exact ⟨none, 0, rfl, arow_nil _ _, below_setRow HBY.out (Nat.le_refl _)⟩
  | true =>
    have hn : tl.size = 12 := of_decide_eq_true HRO.out.symm
    have HSAW := Lib.hid hn
    have b0 : 0 < tl.size := by omega
    have q0 : (tl[0].toNat : Int) = (v0 : Int) := by rw [HVS.out.1, seg_one b0]
    have c0 : (v0 : Int) ≤ 255 := by rw [← q0]; have := tl[0].toNat_lt; omega
    have w0 : IntKind.i64.wrap (v0 : Int) = (v0 : Int) := IntWalk.i64_in _ (by omega)
    have i0 : (0 : Int) < (tl.size : Int) := by omega
    have b1 : 1 < tl.size := by omega
    have q1 : (tl[1].toNat : Int) = (v1 : Int) := by rw [HVS.out.2.1, seg_one b1]
    have c1 : (v1 : Int) ≤ 255 := by rw [← q1]; have := tl[1].toNat_lt; omega
    have w1 : IntKind.i64.wrap (v1 : Int) = (v1 : Int) := IntWalk.i64_in _ (by omega)
    have i1 : (1 : Int) < (tl.size : Int) := by omega
    have b2 : 2 < tl.size := by omega
    have q2 : (tl[2].toNat : Int) = (v2 : Int) := by rw [HVS.out.2.2.1, seg_one b2]
    have c2 : (v2 : Int) ≤ 255 := by rw [← q2]; have := tl[2].toNat_lt; omega
    have w2 : IntKind.i64.wrap (v2 : Int) = (v2 : Int) := IntWalk.i64_in _ (by omega)
    have i2 : (2 : Int) < (tl.size : Int) := by omega
    have b11 : 11 < tl.size := by omega
    have q11 : (tl[11].toNat : Int) = (v5 : Int) := by rw [HVS.out.2.2.2.2.2, seg_one b11]
    have c11 : (v5 : Int) ≤ 255 := by rw [← q11]; have := tl[11].toNat_lt; omega
    have w11 : IntKind.i64.wrap (v5 : Int) = (v5 : Int) := IntWalk.i64_in _ (by omega)
    have i11 : (11 : Int) < (tl.size : Int) := by omega
    have HN1 := Lib.hid (fun V => number_at tl 3 V (by omega) v3 HVS.out.2.2.2.1)
    have l3 : (3 : Int) ≤ (tl.size : Int) := by omega
    have HN2 := Lib.hid (fun V => number_at tl 7 V (by omega) v4 HVS.out.2.2.2.2.1)
    have l7 : (7 : Int) ≤ (tl.size : Int) := by omega
    have e1 : ((tl.size : Int) == 12) = true := by rw [beq_iff_eq]; omega
    clear c0 c1 c2 c11 hn
    have x21 : Y.cell? ⟨g, 21, none⟩ = some (.int .i64 0) := HGY.out.cell rfl
    have f21 : Y.frozen? ⟨g, 21, none⟩ = false := HGY.out.frz 21
    have x22 : Y.cell? ⟨g, 22, none⟩ = some (.int .i64 0) := HGY.out.cell rfl
    have f22 : Y.frozen? ⟨g, 22, none⟩ = false := HGY.out.frz 22
    go_upto_region 17 with fail
    rw [← HTL.out]
    go_upto_region 20 with fail
    obtain ⟨Y2, hY2⟩ : ∃ Z, Z = ((Y.setCell ⟨g, 21, none⟩ (.int .i64 v0)).setCell ⟨g, 22, none⟩ (.int .i64 v1)) := ⟨_, rfl⟩
    have HG2 := Lib.hid (show BoxM g { Ms.m0 4 with dst := (v0 : Int), hops := (v1 : Int) } none 0 Y2 from by
      rw [hY2]
      have h := (heap_setCell_same _ g 22 _ _ (.int .i64 v1) (heap_setCell_same _ g 21 _ _ (.int .i64 v0) HGY.out))
      unfold Ms.cs at h
      simp only [List.setIfInBounds_toArray, List.set_cons_succ, List.set_cons_zero] at h
      unfold BoxM Ms.cs
      exact h)
    have hgw := HGW.out
    have HB3 := Lib.hid (show Below W.heap.size W Y2 from by
      rw [hY2]
      repeat (with_reducible refine Below.setCell ?_ (by simp only; omega) _)
      exact HBY.out)
    have HZ3 := Lib.hid (show BoxM W.heap.size Ms.zero none 0 Y2 from by
      unfold BoxM
      rw [hY2]
      have hne : W.heap.size ≠ g := by omega
      iterate 2 rw [heap_setCell_other _ _ _ _ hne]
      exact HZY.out)
    clear hgw
    rw [← hY2]
    clear hY2 x0 x21 f21 x22 f22
    obtain ⟨U, hU⟩ : ∃ U, U = Y2.drew := ⟨_, rfl⟩
    have HGU := Lib.hid (show BoxM g { Ms.m0 4 with dst := (v0 : Int), hops := (v1 : Int) } none 0 U by rw [hU]; exact HG2.out)
    have HBU := Lib.hid (show Below W.heap.size W U by rw [hU]; exact HB3.out.trans ((drew_below Y2).mono HB3.out.size))
    have HZU := Lib.hid (show BoxM W.heap.size Ms.zero none 0 U by rw [hU]; exact HZ3.out)
    refine wp_region_ord [(0, true), (1, true), (2, true), (3, true), (4, true), (6, true), (7, true), (9, true), (10, true), (5, false), (8, false), (11, true), (12, true), (13, false)] (fun _ => True) (by kernel_rfl) (by kernel_rfl) (by decide) (by kernel_rfl) (fun d _ _ _ _ h => by cases d <;> exact h) trivial ?_
    rw [← hU]
    clear hU
    iterate 9 ((apply wpOrd_take rfl rfl (by kernel_rfl); (intro V hV; go_simp; rfl)); (try simp only [List.setIfInBounds_toArray, List.set_cons_succ, List.set_cons_zero]))
    apply wpOrd_do rfl (by kernel_rfl)
    intro K hK
    go_simp
    refine (HN1.out _).mono ?_
    rintro e X1 ⟨rfl, hb⟩
    have HGX1 := Lib.hid (HGU.out.later hb)
    have HBX1 := Lib.hid (HBU.out.trans (hb.mono HBU.out.size))
    have HZX1 := Lib.hid (HZU.out.later hb)
    refine hK _ _ trivial ?_
    clear hK K hb
    apply wpOrd_do rfl (by kernel_rfl)
    intro K hK
    go_simp
    refine (HN2.out _).mono ?_
    rintro e X2 ⟨rfl, hb⟩
    have HGX2 := Lib.hid (HGX1.out.later hb)
    have HBX2 := Lib.hid (HBX1.out.trans (hb.mono HBX1.out.size))
    have HZX2 := Lib.hid (HZX1.out.later hb)
    refine hK _ _ trivial ?_
    clear hK K hb
    iterate 2 ((apply wpOrd_take rfl rfl (by kernel_rfl); (intro V hV; go_simp; rfl)); (try simp only [List.setIfInBounds_toArray, List.set_cons_succ, List.set_cons_zero]))
    have x0 : X2.cell? ⟨g, 0, none⟩ = some (.int .i64 4) := HGX2.out.cell rfl
    have f0 : X2.frozen? ⟨g, 0, none⟩ = false := HGX2.out.frz 0
    have x23 : X2.cell? ⟨g, 23, none⟩ = some (.int .i64 0) := HGX2.out.cell rfl
    have f23 : X2.frozen? ⟨g, 23, none⟩ = false := HGX2.out.frz 23
    have x24 : X2.cell? ⟨g, 24, none⟩ = some (.int .u32 0) := HGX2.out.cell rfl
    have f24 : X2.frozen? ⟨g, 24, none⟩ = false := HGX2.out.frz 24
    have x25 : X2.cell? ⟨g, 25, none⟩ = some (.int .u32 0) := HGX2.out.cell rfl
    have f25 : X2.frozen? ⟨g, 25, none⟩ = false := HGX2.out.frz 25
    have x26 : X2.cell? ⟨g, 26, none⟩ = some (.int .u8 0) := HGX2.out.cell rfl
    have f26 : X2.frozen? ⟨g, 26, none⟩ = false := HGX2.out.frz 26
    apply wpOrd_do rfl (by kernel_rfl)
    intro K hK
    go_simp
    refine hK _ _ trivial ?_
    clear hK K
    refine wpOrd_nil ?_
    go_upto_region 25 with fail
    obtain ⟨Z, hZ⟩ : ∃ Z, Z = ((((X2.setCell ⟨g, 23, none⟩ (.int .i64 v2)).setCell ⟨g, 24, none⟩ (.int .u32 v3)).setCell ⟨g, 25, none⟩ (.int .u32 v4)).setCell ⟨g, 26, none⟩ (.int .u8 v5)) := ⟨_, rfl⟩
    have HBM := Lib.hid (show BoxM g M none 0 Z from by
      rw [HM.out, hZ]
      have h := (heap_setCell_same _ g 26 _ _ (.int .u8 v5) (heap_setCell_same _ g 25 _ _ (.int .u32 v4) (heap_setCell_same _ g 24 _ _ (.int .u32 v3) (heap_setCell_same _ g 23 _ _ (.int .i64 v2) HGX2.out))))
      unfold Ms.cs at h
      simp only [List.setIfInBounds_toArray, List.set_cons_succ, List.set_cons_zero] at h
      unfold BoxM Ms.cs
      exact h)
    have hgw := HGW.out
    have HZB := Lib.hid (show Below W.heap.size W Z from by
      rw [hZ]
      repeat (with_reducible refine Below.setCell ?_ (by simp only; omega) _)
      exact HBX2.out)
    have HRC := Lib.hid (show Z.heap[W.heap.size]? = some (.cells (Ms.zero.cs none 0) 38 (0, 0)) from by
      rw [hZ]
      have hne : W.heap.size ≠ g := by omega
      iterate 4 rw [heap_setCell_other _ _ _ _ hne]
      exact HZX2.out)
    have HAR := Lib.hid (show ARow Z (W.heap.size + 1) none 0 M.rc.adjs from by
      rw [HM.out]
      exact arow_nil _ _)
    clear hgw
    obtain ⟨sa, hsa⟩ : ∃ a : Option Addr, a = none := ⟨_, rfl⟩
    obtain ⟨sc, hsc⟩ : ∃ n : Nat, n = 0 := ⟨_, rfl⟩
    rw [← hsa, ← hsc] at HBM HAR
    rw [← hZ]
    clear hsa hsc hZ x0 f0 x23 f23 x24 f24 x25 f25 x26 f26
    have HCH := Lib.hid (rmcheck_any M sa sc Z HGO.out (ARow.adjs HAR.out) (by have := HGA.out; unfold maxLen; omega))
    have HCC0 := Lib.hid (block_cells HBM.out)
    have HS1 := Lib.hid (HSZ.out sa sc)
    go_wp2_with ((with_reducible refine wpList_load_csg (by kernel_rfl) 38 (.tmp 6) rfl ⟨g, 0, none⟩ rfl (M.cs sa sc).toList _ HCC0.out Tryz.underlying38 rfl HS1.out ?_); rw [Array.toArray_toList])
    unfold Ms.ag at HCH
    refine HCH.out.mono ?_
    rintro e Z2 ⟨rfl, hb⟩
    have HZ2B := Lib.hid (HZB.out.trans (hb.mono HZB.out.size))
    have HBM2 := Lib.hid (HBM.out.later hb)
    have HAR2 := Lib.hid (Row.later HAR.out hb)
    have HRC2 := Lib.hid (show Z2.heap[W.heap.size]? = some (.cells (Ms.zero.cs none 0) 38 (0, 0)) from (hb.block _ (Array.getElem?_eq_some_iff.1 HRC.out).1).trans HRC.out)
    clear hb HCH
    cases hc : M.chk with
    | false =>
      have hme : M.err = 2 := by unfold Ms.err; rw [hc]; rfl
      have HRM := Lib.hid (show decM s = Ms.zero ∧ decME s = 4 from ⟨by rw [HDM.out, hc]; rfl, by rw [HDE.out, hc]; rfl⟩)
      rw [hme]
      clear hme hc
      go_wp2_with ((with_reducible refine wpList_store_row rfl 38 (.tmp 2) (.tmp 132) rfl rfl W.heap.size rfl 38 (Ms.zero.cs none 0) #[.int .i64 0, .int .i64 0, .int .u32 0, .int .u32 0, .int .i64 0, .bool false, .slice none 0 0, .int .i64 0, .int .u32 0, .int .u32 0, .int .i64 0, .int .i64 0, .int .u32 0, .int .i64 0, .int .i64 0, .int .i64 0, .int .u32 0, .int .u64 0, .int .u64 0, .int .u64 0, .int .u64 0, .int .i64 0, .int .i64 0, .int .i64 0, .int .u32 0, .int .u32 0, .int .u8 0, .int .i64 0, .int .u32 0, .int .i64 0, .int .u32 0, .int .u32 0] rfl HRC2.out info_zero HSS.out zero_one ?_))
      (try simp only [Exit.inBlock, Exit.then])
      refine bodyPost_ret (v := .tuple #[.agg (Ms.zero.cs none 0), .int .i64 4]) (results_cell rfl rfl rfl (box_setRow (n := Ms.zero) (sa := none) (sc := 0) (m := Ms.zero) HRC2.out) Tryz.underlying38 rfl (info_msg Ms.zero none 0)) rfl ?_
      show DecM W (decM s) (decME s) _ _
      rw [HRM.out.1, HRM.out.2]
      exact ⟨none, 0, rfl, arow_nil _ _, below_setRow HZ2B.out (Nat.le_refl _)⟩
    | true =>
      have hme : M.err = 0 := by unfold Ms.err; rw [hc]; rfl
      have HRM := Lib.hid (show decM s = M ∧ decME s = 0 from ⟨by rw [HDM.out, hc]; rfl, by rw [HDE.out, hc]; rfl⟩)
      rw [hme]
      clear hme hc
      have HCC := Lib.hid (block_cells HBM2.out)
      have HS2 := Lib.hid (HSZ'.out sa sc)
      have HS3 := Lib.hid (HSM.out sa sc)
      have HS4 := Lib.hid (HONE.out sa sc)
      go_wp2_with (first | ((with_reducible refine wpList_load_cs rfl 38 (.tmp 6) rfl ⟨g, 0, none⟩ rfl (M.cs sa sc).toList _ HCC.out Tryz.underlying38 rfl HS1.out ?_); rw [Array.toArray_toList]) | (with_reducible refine wpList_store_row rfl 38 (.tmp 2) (.tmp 133) rfl rfl W.heap.size rfl 38 (Ms.zero.cs none 0) (M.cs sa sc) rfl HRC2.out HS2.out HS3.out HS4.out ?_))
      (try simp only [Exit.inBlock, Exit.then])
      refine bodyPost_ret (v := .tuple #[.agg (M.cs sa sc), .int .i64 0]) (results_cell rfl rfl rfl (setRow_heap _ _ _ _ _ _ HRC2.out) Tryz.underlying38 rfl (info_msg M sa sc)) rfl ?_
      show DecM W (decM s) (decME s) _ _
      rw [HRM.out.1, HRM.out.2]
      refine ⟨sa, sc, rfl, ?_, below_setRow HZ2B.out (Nat.le_refl _)⟩
      refine (Row.more HAR2.out (Nat.le_succ _)).same fun k hk => ?_
      have := (Row.lt HAR2.out k hk).1
      exact setRow_other _ _ _ _ (by omega)
set_option maxHeartbeats 12800000 in
theorem rmdec5 (s : ByteArray) (W : World) (h1 : 3 ≤ s.size) (h2 : s.size ≤ 512) (h3 : openE s = 0) (hk : kindOf (openS s).data.toList = 5) : Calls Tryz.prog 5 #[.string s] W (DecM W (decM s) (decME s)) := by
  obtain ⟨hsl, hsz⟩ := open_sealB h3
  obtain ⟨os, hos⟩ : ∃ o, o = openS s := ⟨_, rfl⟩
  rw [← hos] at hk hsz
  have ho1 : 1 ≤ os.size := by omega
  have ho2 : os.size ≤ 510 := by omega
  have ho3 : (1 : Int) ≤ (os.size : Int) := by omega
  have hx0 : (os[0].toNat : Int) = 5 := (kindOf_head (s := os) (by omega)).symm.trans hk
  obtain ⟨tl, htl⟩ : ∃ t, t = os.extract 1 os.size := ⟨_, rfl⟩
  have htl2 : tl.data.toList = os.data.toList.tail := by rw [htl]; exact tail_list os
  have hts : tl.size ≤ 1000 := by rw [htl, ByteArray.size_extract]; omega
  have hbo : bodyOk os.data.toList = (redOk 5 tl.data.toList && (Ms.got 5 tl.data.toList).chk) := by
    unfold bodyOk
    rw [hk, ← htl2]
    rfl
  have hde : decME s = if (redOk 5 tl.data.toList && (Ms.got 5 tl.data.toList).chk) = true then 0 else 4 := by
    unfold decME
    rw [if_neg (by omega), if_neg (by omega), if_pos h3, ← hos, hbo]
  have hdm : decM s = if decME s = 0 then Ms.got 5 tl.data.toList else Ms.zero := by
    unfold decM
    rw [← hos, hk, ← htl2]
  rw [hde] at hdm
  have hgo := got_ok 5 tl.data.toList (by unfold I64; omega)
  have hga := got_adjs 5 tl.data.toList
  obtain ⟨M, hM⟩ : ∃ M, M = Ms.got 5 tl.data.toList := ⟨_, rfl⟩
  obtain ⟨ro, hro⟩ : ∃ b, b = redOk 5 tl.data.toList := ⟨_, rfl⟩
  rw [← hM, ← hro] at hde hdm
  rw [← hM] at hgo hga
  have hdl : decide (512 < (s.size : Int)) = false := decide_eq_false (by omega)
  have hdl2 : decide ((s.size : Int) < 3) = false := decide_eq_false (by omega)
  obtain ⟨v0, hv0⟩ : ∃ v, v = seg tl.data.toList 0 1 := ⟨_, rfl⟩
  obtain ⟨v1, hv1⟩ : ∃ v, v = seg tl.data.toList 1 1 := ⟨_, rfl⟩
  obtain ⟨v2, hv2⟩ : ∃ v, v = seg tl.data.toList 2 1 := ⟨_, rfl⟩
  obtain ⟨v3, hv3⟩ : ∃ v, v = seg tl.data.toList 3 4 := ⟨_, rfl⟩
  obtain ⟨v4, hv4⟩ : ∃ v, v = seg tl.data.toList 7 1 := ⟨_, rfl⟩
  obtain ⟨v5, hv5⟩ : ∃ v, v = seg tl.data.toList 8 4 := ⟨_, rfl⟩
  obtain ⟨v6, hv6⟩ : ∃ v, v = seg tl.data.toList 12 4 := ⟨_, rfl⟩
  have HRO := Lib.hid (show ro = decide (tl.size = 16) by rw [hro]; show decide (tl.data.toList.length = 16) = _; rw [size_len])
  have HM := Lib.hid (show M = ({ Ms.zero with kd := 5, dst := (v0 : Int), hops := (v1 : Int), ak := ⟨(v2 : Int), v3, (v4 : Int), v5, v6⟩ } : Ms) by rw [hM, hv0, hv1, hv2, hv3, hv4, hv5, hv6]; rfl)
  have HVS := Lib.hid (show v0 = seg tl.data.toList 0 1 ∧ v1 = seg tl.data.toList 1 1 ∧ v2 = seg tl.data.toList 2 1 ∧ v3 = seg tl.data.toList 3 4 ∧ v4 = seg tl.data.toList 7 1 ∧ v5 = seg tl.data.toList 8 4 ∧ v6 = seg tl.data.toList 12 4 from ⟨hv0, hv1, hv2, hv3, hv4, hv5, hv6⟩)
  obtain ⟨W1, hW1⟩ : ∃ W1, W1 = W.alloc (.cells #[.int .i64 0, .int .i64 0, .int .u32 0, .int .u32 0, .int .i64 0, .bool false, .slice none 0 0, .int .i64 0, .int .u32 0, .int .u32 0, .int .i64 0, .int .i64 0, .int .u32 0, .int .i64 0, .int .i64 0, .int .i64 0, .int .u32 0, .int .u64 0, .int .u64 0, .int .u64 0, .int .u64 0, .int .i64 0, .int .i64 0, .int .i64 0, .int .u32 0, .int .u32 0, .int .u8 0, .int .i64 0, .int .u32 0, .int .i64 0, .int .u32 0, .int .u32 0] 38) := ⟨_, rfl⟩
  have hb1 : Below W.heap.size W W1 := by rw [hW1]; exact (Below.refl _ _).alloc (Nat.le_refl _) _
  have hbx : BoxM W.heap.size Ms.zero none 0 W1 := by rw [hW1]; exact heap_alloc_new _ _
  have HBX := Lib.hid hbx
  have HBC := Lib.hid (show W1.heap[W.heap.size]? = some (.cells (Ms.zero.cs none 0) 38 (0, 0)) from hbx)
  have HSS := Lib.hid (show (Ms.zero.cs none 0).size = (#[.int .i64 0, .int .i64 0, .int .u32 0, .int .u32 0, .int .i64 0, .bool false, .slice none 0 0, .int .i64 0, .int .u32 0, .int .u32 0, .int .i64 0, .int .i64 0, .int .u32 0, .int .i64 0, .int .i64 0, .int .i64 0, .int .u32 0, .int .u64 0, .int .u64 0, .int .u64 0, .int .u64 0, .int .i64 0, .int .i64 0, .int .i64 0, .int .u32 0, .int .u32 0, .int .u8 0, .int .i64 0, .int .u32 0, .int .i64 0, .int .u32 0, .int .u32 0] : Array Value).size from rfl)
  have HW1 := Lib.hid hW1
  have HB1 := Lib.hid hb1
  have HOS := Lib.hid hos
  have HOE := Lib.hid h3
  have HOP := Lib.hid (ropen_any s W1 (by omega))
  have HIK := Lib.hid (show (Tryz.prog.info? 38).map (·.size) = some (#[.int .i64 5, .int .i64 0, .int .u32 0, .int .u32 0, .int .i64 0, .bool false, .slice none 0 0, .int .i64 0, .int .u32 0, .int .u32 0, .int .i64 0, .int .i64 0, .int .u32 0, .int .i64 0, .int .i64 0, .int .i64 0, .int .u32 0, .int .u64 0, .int .u64 0, .int .u64 0, .int .u64 0, .int .i64 0, .int .i64 0, .int .i64 0, .int .u32 0, .int .u32 0, .int .u8 0, .int .i64 0, .int .u32 0, .int .i64 0, .int .u32 0, .int .u32 0] : Array Value).size from info_msg' (Ms.m0 5) none 0)
  have HSK := Lib.hid (show (#[.int .i64 0, .int .i64 0, .int .u32 0, .int .u32 0, .int .i64 0, .bool false, .slice none 0 0, .int .i64 0, .int .u32 0, .int .u32 0, .int .i64 0, .int .i64 0, .int .u32 0, .int .i64 0, .int .i64 0, .int .i64 0, .int .u32 0, .int .u64 0, .int .u64 0, .int .u64 0, .int .u64 0, .int .i64 0, .int .i64 0, .int .i64 0, .int .u32 0, .int .u32 0, .int .u8 0, .int .i64 0, .int .u32 0, .int .i64 0, .int .u32 0, .int .u32 0] : Array Value).size = (#[.int .i64 5, .int .i64 0, .int .u32 0, .int .u32 0, .int .i64 0, .bool false, .slice none 0 0, .int .i64 0, .int .u32 0, .int .u32 0, .int .i64 0, .int .i64 0, .int .u32 0, .int .i64 0, .int .i64 0, .int .i64 0, .int .u32 0, .int .u64 0, .int .u64 0, .int .u64 0, .int .u64 0, .int .i64 0, .int .i64 0, .int .i64 0, .int .u32 0, .int .u32 0, .int .u8 0, .int .i64 0, .int .u32 0, .int .i64 0, .int .u32 0, .int .u32 0] : Array Value).size from rfl)
  have HOK := Lib.hid (show (#[.int .i64 5, .int .i64 0, .int .u32 0, .int .u32 0, .int .i64 0, .bool false, .slice none 0 0, .int .i64 0, .int .u32 0, .int .u32 0, .int .i64 0, .int .i64 0, .int .u32 0, .int .i64 0, .int .i64 0, .int .i64 0, .int .u32 0, .int .u64 0, .int .u64 0, .int .u64 0, .int .u64 0, .int .i64 0, .int .i64 0, .int .i64 0, .int .u32 0, .int .u32 0, .int .u8 0, .int .i64 0, .int .u32 0, .int .i64 0, .int .u32 0, .int .u32 0] : Array Value).all (·.oneCell') = true from cs_one (Ms.m0 5) none 0)
  have HGO := Lib.hid hgo
  have HGA := Lib.hid hga
  have HDE := Lib.hid hde
  have HDM := Lib.hid hdm
  have HSZ := Lib.hid (fun sa sc => info_msg M sa sc)
  have HSZ' := Lib.hid (fun sa sc => info_msg' M sa sc)
  have HONE := Lib.hid (fun sa sc => cs_one M sa sc)
  have HSM := Lib.hid (fun sa sc => show (Ms.zero.cs none 0).size = (M.cs sa sc).size from rfl)
  have HTL := Lib.hid htl
  have hos1 : 0 < os.size := by omega
  have HTS := Lib.hid hts
  clear hW1 hb1 hbx hos h3 hk hbo hM hro hgo hga hde hdm htl htl2 hts hsl hv0 hv1 hv2 hv3 hv4 hv5 hv6
  go_enter Tryz.func5, Tryz.ntmps5
  go_upto_region 1 with fail
  rw [← HW1.out]
  go_wp2_with fail
  refine HOP.out.mono ?_
  rintro e V ⟨rfl, hb⟩
  rw [← HOS.out, HOE.out]
  have HB2 := Lib.hid (HB1.out.trans (hb.mono HB1.out.size))
  have HZ2 := Lib.hid (HBX.out.later hb)
  have HAL := Lib.hid (show (V.alloc (.cells #[.int .i64 0, .int .i64 0, .int .u32 0, .int .u32 0, .int .i64 0, .bool false, .slice none 0 0, .int .i64 0, .int .u32 0, .int .u32 0, .int .i64 0, .int .i64 0, .int .u32 0, .int .i64 0, .int .i64 0, .int .i64 0, .int .u32 0, .int .u64 0, .int .u64 0, .int .u64 0, .int .u64 0, .int .i64 0, .int .i64 0, .int .i64 0, .int .u32 0, .int .u32 0, .int .u8 0, .int .i64 0, .int .u32 0, .int .i64 0, .int .u32 0, .int .u32 0] 38)).heap[V.heap.size]? = some (.cells #[.int .i64 0, .int .i64 0, .int .u32 0, .int .u32 0, .int .i64 0, .bool false, .slice none 0 0, .int .i64 0, .int .u32 0, .int .u32 0, .int .i64 0, .int .i64 0, .int .u32 0, .int .i64 0, .int .i64 0, .int .i64 0, .int .u32 0, .int .u64 0, .int .u64 0, .int .u64 0, .int .u64 0, .int .i64 0, .int .i64 0, .int .i64 0, .int .u32 0, .int .u32 0, .int .u8 0, .int .i64 0, .int .u32 0, .int .i64 0, .int .u32 0, .int .u32 0] 38 (0, 0)) from heap_alloc_new _ _)
  clear hb
  go_upto_region 9 with ((with_reducible refine wpList_store_row rfl 38 (.tmp 6) (.tmp 27) rfl rfl V.heap.size rfl 38 #[.int .i64 0, .int .i64 0, .int .u32 0, .int .u32 0, .int .i64 0, .bool false, .slice none 0 0, .int .i64 0, .int .u32 0, .int .u32 0, .int .i64 0, .int .i64 0, .int .u32 0, .int .i64 0, .int .i64 0, .int .i64 0, .int .u32 0, .int .u64 0, .int .u64 0, .int .u64 0, .int .u64 0, .int .i64 0, .int .i64 0, .int .i64 0, .int .u32 0, .int .u32 0, .int .u8 0, .int .i64 0, .int .u32 0, .int .i64 0, .int .u32 0, .int .u32 0] #[.int .i64 5, .int .i64 0, .int .u32 0, .int .u32 0, .int .i64 0, .bool false, .slice none 0 0, .int .i64 0, .int .u32 0, .int .u32 0, .int .i64 0, .int .i64 0, .int .u32 0, .int .i64 0, .int .i64 0, .int .i64 0, .int .u32 0, .int .u64 0, .int .u64 0, .int .u64 0, .int .u64 0, .int .i64 0, .int .i64 0, .int .i64 0, .int .u32 0, .int .u32 0, .int .u8 0, .int .i64 0, .int .u32 0, .int .i64 0, .int .u32 0, .int .u32 0] rfl HAL.out HIK.out HSK.out HOK.out ?_))
  obtain ⟨g, hg⟩ : ∃ g, g = V.heap.size := ⟨_, rfl⟩
  obtain ⟨Y, hY⟩ : ∃ Y, Y = (V.alloc (.cells #[.int .i64 0, .int .i64 0, .int .u32 0, .int .u32 0, .int .i64 0, .bool false, .slice none 0 0, .int .i64 0, .int .u32 0, .int .u32 0, .int .i64 0, .int .i64 0, .int .u32 0, .int .i64 0, .int .i64 0, .int .i64 0, .int .u32 0, .int .u64 0, .int .u64 0, .int .u64 0, .int .u64 0, .int .i64 0, .int .i64 0, .int .i64 0, .int .u32 0, .int .u32 0, .int .u8 0, .int .i64 0, .int .u32 0, .int .i64 0, .int .u32 0, .int .u32 0] 38)).setRow V.heap.size #[.int .i64 5, .int .i64 0, .int .u32 0, .int .u32 0, .int .i64 0, .bool false, .slice none 0 0, .int .i64 0, .int .u32 0, .int .u32 0, .int .i64 0, .int .i64 0, .int .u32 0, .int .i64 0, .int .i64 0, .int .i64 0, .int .u32 0, .int .u64 0, .int .u64 0, .int .u64 0, .int .u64 0, .int .i64 0, .int .i64 0, .int .i64 0, .int .u32 0, .int .u32 0, .int .u8 0, .int .i64 0, .int .u32 0, .int .i64 0, .int .u32 0, .int .u32 0] := ⟨_, rfl⟩
  have hgY : BoxM g (Ms.m0 5) none 0 Y := by rw [hY, hg]; exact setRow_heap _ _ _ _ _ _ HAL.out
  have hbY : Below V.heap.size V Y := by rw [hY]; exact below_setRow ((Below.refl _ _).alloc (Nat.le_refl _) _) (Nat.le_refl _)
  have HGY := Lib.hid hgY
  have HBY := Lib.hid (HB2.out.trans (hbY.mono HB2.out.size))
  have HZY := Lib.hid (HZ2.out.later hbY)
  have HGW := Lib.hid (show W.heap.size < g by rw [hg]; exact (Array.getElem?_eq_some_iff.1 HZ2.out).1)
  have x0 : Y.cell? ⟨g, 0, none⟩ = some (.int .i64 5) := hgY.cell rfl
  rw [← hY, ← hg]
  clear hY hg hgY hbY
  cases ro with
  | false =>
    have hn : ¬ tl.size = 16 := of_decide_eq_false HRO.out.symm
    have e1 : ((tl.size : Int) == 16) = false := by rw [beq_eq_false_iff_ne]; omega
    have HRM := Lib.hid (show decM s = Ms.zero ∧ decME s = 4 from ⟨HDM.out, HDE.out⟩)
    have HTE := Lib.hid (show os.extract 1 os.size = tl from HTL.out.symm)
    have e1' : (((os.extract 1 os.size).size : Int) == 16) = false := by rw [HTE.out]; exact e1
    have e1'' : ((os.size : Int) - 1 == 16) = false := by
      have h : tl.size = os.size - 1 := by rw [HTL.out, ByteArray.size_extract]; omega
      rw [beq_eq_false_iff_ne]; omega
    have e1n : ¬ (os.size : Int) - 1 = 16 := by rw [beq_eq_false_iff_ne] at e1''; exact e1''
    clear hn
    have HRC := Lib.hid (show Y.heap[W.heap.size]? = some (.cells (Ms.zero.cs none 0) 38 (0, 0)) from HZY.out)
    go_wp2_with ((with_reducible refine wpList_store_row rfl 38 (.tmp 2) (.tmp 30) rfl rfl W.heap.size rfl 38 (Ms.zero.cs none 0) #[.int .i64 0, .int .i64 0, .int .u32 0, .int .u32 0, .int .i64 0, .bool false, .slice none 0 0, .int .i64 0, .int .u32 0, .int .u32 0, .int .i64 0, .int .i64 0, .int .u32 0, .int .i64 0, .int .i64 0, .int .i64 0, .int .u32 0, .int .u64 0, .int .u64 0, .int .u64 0, .int .u64 0, .int .i64 0, .int .i64 0, .int .i64 0, .int .u32 0, .int .u32 0, .int .u8 0, .int .i64 0, .int .u32 0, .int .i64 0, .int .u32 0, .int .u32 0] rfl HRC.out info_zero HSS.out zero_one ?_))
    (try simp only [Exit.inBlock, Exit.then])
    refine bodyPost_ret (v := .tuple #[.agg (Ms.zero.cs none 0), .int .i64 4]) (results_cell rfl rfl rfl (box_setRow (n := Ms.zero) (sa := none) (sc := 0) (m := Ms.zero) HRC.out) Tryz.underlying38 rfl (info_msg Ms.zero none 0)) rfl ?_
    show DecM W (decM s) (decME s) _ _
    rw [HRM.out.1, HRM.out.2]
    exact ⟨none, 0, rfl, arow_nil _ _, below_setRow HBY.out (Nat.le_refl _)⟩
  | true =>
    have hn : tl.size = 16 := of_decide_eq_true HRO.out.symm
    have HSAW := Lib.hid hn
    have b0 : 0 < tl.size := by omega
    have q0 : (tl[0].toNat : Int) = (v0 : Int) := by rw [HVS.out.1, seg_one b0]
    have c0 : (v0 : Int) ≤ 255 := by rw [← q0]; have := tl[0].toNat_lt; omega
    have w0 : IntKind.i64.wrap (v0 : Int) = (v0 : Int) := IntWalk.i64_in _ (by omega)
    have i0 : (0 : Int) < (tl.size : Int) := by omega
    have b1 : 1 < tl.size := by omega
    have q1 : (tl[1].toNat : Int) = (v1 : Int) := by rw [HVS.out.2.1, seg_one b1]
    have c1 : (v1 : Int) ≤ 255 := by rw [← q1]; have := tl[1].toNat_lt; omega
    have w1 : IntKind.i64.wrap (v1 : Int) = (v1 : Int) := IntWalk.i64_in _ (by omega)
    have i1 : (1 : Int) < (tl.size : Int) := by omega
    have b2 : 2 < tl.size := by omega
    have q2 : (tl[2].toNat : Int) = (v2 : Int) := by rw [HVS.out.2.2.1, seg_one b2]
    have c2 : (v2 : Int) ≤ 255 := by rw [← q2]; have := tl[2].toNat_lt; omega
    have w2 : IntKind.i64.wrap (v2 : Int) = (v2 : Int) := IntWalk.i64_in _ (by omega)
    have i2 : (2 : Int) < (tl.size : Int) := by omega
    have b7 : 7 < tl.size := by omega
    have q7 : (tl[7].toNat : Int) = (v4 : Int) := by rw [HVS.out.2.2.2.2.1, seg_one b7]
    have c7 : (v4 : Int) ≤ 255 := by rw [← q7]; have := tl[7].toNat_lt; omega
    have w7 : IntKind.i64.wrap (v4 : Int) = (v4 : Int) := IntWalk.i64_in _ (by omega)
    have i7 : (7 : Int) < (tl.size : Int) := by omega
    have HN1 := Lib.hid (fun V => number_at tl 3 V (by omega) v3 HVS.out.2.2.2.1)
    have l3 : (3 : Int) ≤ (tl.size : Int) := by omega
    have HN2 := Lib.hid (fun V => number_at tl 8 V (by omega) v5 HVS.out.2.2.2.2.2.1)
    have l8 : (8 : Int) ≤ (tl.size : Int) := by omega
    have HN3 := Lib.hid (fun V => number_at tl 12 V (by omega) v6 HVS.out.2.2.2.2.2.2)
    have l12 : (12 : Int) ≤ (tl.size : Int) := by omega
    have e1 : ((tl.size : Int) == 16) = true := by rw [beq_iff_eq]; omega
    clear c0 c1 c2 c7 hn
    have x21 : Y.cell? ⟨g, 21, none⟩ = some (.int .i64 0) := HGY.out.cell rfl
    have f21 : Y.frozen? ⟨g, 21, none⟩ = false := HGY.out.frz 21
    have x22 : Y.cell? ⟨g, 22, none⟩ = some (.int .i64 0) := HGY.out.cell rfl
    have f22 : Y.frozen? ⟨g, 22, none⟩ = false := HGY.out.frz 22
    go_upto_region 17 with fail
    rw [← HTL.out]
    go_upto_region 24 with fail
    obtain ⟨Y2, hY2⟩ : ∃ Z, Z = ((Y.setCell ⟨g, 21, none⟩ (.int .i64 v0)).setCell ⟨g, 22, none⟩ (.int .i64 v1)) := ⟨_, rfl⟩
    have HG2 := Lib.hid (show BoxM g { Ms.m0 5 with dst := (v0 : Int), hops := (v1 : Int) } none 0 Y2 from by
      rw [hY2]
      have h := (heap_setCell_same _ g 22 _ _ (.int .i64 v1) (heap_setCell_same _ g 21 _ _ (.int .i64 v0) HGY.out))
      unfold Ms.cs at h
      simp only [List.setIfInBounds_toArray, List.set_cons_succ, List.set_cons_zero] at h
      unfold BoxM Ms.cs
      exact h)
    have hgw := HGW.out
    have HB3 := Lib.hid (show Below W.heap.size W Y2 from by
      rw [hY2]
      repeat (with_reducible refine Below.setCell ?_ (by simp only; omega) _)
      exact HBY.out)
    have HZ3 := Lib.hid (show BoxM W.heap.size Ms.zero none 0 Y2 from by
      unfold BoxM
      rw [hY2]
      have hne : W.heap.size ≠ g := by omega
      iterate 2 rw [heap_setCell_other _ _ _ _ hne]
      exact HZY.out)
    clear hgw
    rw [← hY2]
    clear hY2 x0 x21 f21 x22 f22
    obtain ⟨U, hU⟩ : ∃ U, U = Y2.drew := ⟨_, rfl⟩
    have HGU := Lib.hid (show BoxM g { Ms.m0 5 with dst := (v0 : Int), hops := (v1 : Int) } none 0 U by rw [hU]; exact HG2.out)
    have HBU := Lib.hid (show Below W.heap.size W U by rw [hU]; exact HB3.out.trans ((drew_below Y2).mono HB3.out.size))
    have HZU := Lib.hid (show BoxM W.heap.size Ms.zero none 0 U by rw [hU]; exact HZ3.out)
    refine wp_region_ord [(0, true), (1, true), (2, true), (3, true), (4, true), (6, true), (7, true), (8, true), (9, true), (10, true), (12, true), (13, true), (5, false), (11, false), (14, false), (15, true), (16, true), (17, false)] (fun _ => True) (by kernel_rfl) (by kernel_rfl) (by decide) (by kernel_rfl) (fun d _ _ _ _ h => by cases d <;> exact h) trivial ?_
    rw [← hU]
    clear hU
    iterate 12 ((apply wpOrd_take rfl rfl (by kernel_rfl); (intro V hV; go_simp; rfl)); (try simp only [List.setIfInBounds_toArray, List.set_cons_succ, List.set_cons_zero]))
    apply wpOrd_do rfl (by kernel_rfl)
    intro K hK
    go_simp
    refine (HN1.out _).mono ?_
    rintro e X1 ⟨rfl, hb⟩
    have HGX1 := Lib.hid (HGU.out.later hb)
    have HBX1 := Lib.hid (HBU.out.trans (hb.mono HBU.out.size))
    have HZX1 := Lib.hid (HZU.out.later hb)
    refine hK _ _ trivial ?_
    clear hK K hb
    apply wpOrd_do rfl (by kernel_rfl)
    intro K hK
    go_simp
    refine (HN2.out _).mono ?_
    rintro e X2 ⟨rfl, hb⟩
    have HGX2 := Lib.hid (HGX1.out.later hb)
    have HBX2 := Lib.hid (HBX1.out.trans (hb.mono HBX1.out.size))
    have HZX2 := Lib.hid (HZX1.out.later hb)
    refine hK _ _ trivial ?_
    clear hK K hb
    apply wpOrd_do rfl (by kernel_rfl)
    intro K hK
    go_simp
    refine (HN3.out _).mono ?_
    rintro e X3 ⟨rfl, hb⟩
    have HGX3 := Lib.hid (HGX2.out.later hb)
    have HBX3 := Lib.hid (HBX2.out.trans (hb.mono HBX2.out.size))
    have HZX3 := Lib.hid (HZX2.out.later hb)
    refine hK _ _ trivial ?_
    clear hK K hb
    iterate 2 ((apply wpOrd_take rfl rfl (by kernel_rfl); (intro V hV; go_simp; rfl)); (try simp only [List.setIfInBounds_toArray, List.set_cons_succ, List.set_cons_zero]))
    have x0 : X3.cell? ⟨g, 0, none⟩ = some (.int .i64 5) := HGX3.out.cell rfl
    have f0 : X3.frozen? ⟨g, 0, none⟩ = false := HGX3.out.frz 0
    have x27 : X3.cell? ⟨g, 27, none⟩ = some (.int .i64 0) := HGX3.out.cell rfl
    have f27 : X3.frozen? ⟨g, 27, none⟩ = false := HGX3.out.frz 27
    have x28 : X3.cell? ⟨g, 28, none⟩ = some (.int .u32 0) := HGX3.out.cell rfl
    have f28 : X3.frozen? ⟨g, 28, none⟩ = false := HGX3.out.frz 28
    have x29 : X3.cell? ⟨g, 29, none⟩ = some (.int .i64 0) := HGX3.out.cell rfl
    have f29 : X3.frozen? ⟨g, 29, none⟩ = false := HGX3.out.frz 29
    have x30 : X3.cell? ⟨g, 30, none⟩ = some (.int .u32 0) := HGX3.out.cell rfl
    have f30 : X3.frozen? ⟨g, 30, none⟩ = false := HGX3.out.frz 30
    have x31 : X3.cell? ⟨g, 31, none⟩ = some (.int .u32 0) := HGX3.out.cell rfl
    have f31 : X3.frozen? ⟨g, 31, none⟩ = false := HGX3.out.frz 31
    apply wpOrd_do rfl (by kernel_rfl)
    intro K hK
    go_simp
    refine hK _ _ trivial ?_
    clear hK K
    refine wpOrd_nil ?_
    go_upto_region 25 with fail
    obtain ⟨Z, hZ⟩ : ∃ Z, Z = (((((X3.setCell ⟨g, 27, none⟩ (.int .i64 v2)).setCell ⟨g, 28, none⟩ (.int .u32 v3)).setCell ⟨g, 29, none⟩ (.int .i64 v4)).setCell ⟨g, 30, none⟩ (.int .u32 v5)).setCell ⟨g, 31, none⟩ (.int .u32 v6)) := ⟨_, rfl⟩
    have HBM := Lib.hid (show BoxM g M none 0 Z from by
      rw [HM.out, hZ]
      have h := (heap_setCell_same _ g 31 _ _ (.int .u32 v6) (heap_setCell_same _ g 30 _ _ (.int .u32 v5) (heap_setCell_same _ g 29 _ _ (.int .i64 v4) (heap_setCell_same _ g 28 _ _ (.int .u32 v3) (heap_setCell_same _ g 27 _ _ (.int .i64 v2) HGX3.out)))))
      unfold Ms.cs at h
      simp only [List.setIfInBounds_toArray, List.set_cons_succ, List.set_cons_zero] at h
      unfold BoxM Ms.cs
      exact h)
    have hgw := HGW.out
    have HZB := Lib.hid (show Below W.heap.size W Z from by
      rw [hZ]
      repeat (with_reducible refine Below.setCell ?_ (by simp only; omega) _)
      exact HBX3.out)
    have HRC := Lib.hid (show Z.heap[W.heap.size]? = some (.cells (Ms.zero.cs none 0) 38 (0, 0)) from by
      rw [hZ]
      have hne : W.heap.size ≠ g := by omega
      iterate 5 rw [heap_setCell_other _ _ _ _ hne]
      exact HZX3.out)
    have HAR := Lib.hid (show ARow Z (W.heap.size + 1) none 0 M.rc.adjs from by
      rw [HM.out]
      exact arow_nil _ _)
    clear hgw
    obtain ⟨sa, hsa⟩ : ∃ a : Option Addr, a = none := ⟨_, rfl⟩
    obtain ⟨sc, hsc⟩ : ∃ n : Nat, n = 0 := ⟨_, rfl⟩
    rw [← hsa, ← hsc] at HBM HAR
    rw [← hZ]
    clear hsa hsc hZ x0 f0 x27 f27 x28 f28 x29 f29 x30 f30 x31 f31
    have HCH := Lib.hid (rmcheck_any M sa sc Z HGO.out (ARow.adjs HAR.out) (by have := HGA.out; unfold maxLen; omega))
    have HCC0 := Lib.hid (block_cells HBM.out)
    have HS1 := Lib.hid (HSZ.out sa sc)
    go_wp2_with ((with_reducible refine wpList_load_csg (by kernel_rfl) 38 (.tmp 6) rfl ⟨g, 0, none⟩ rfl (M.cs sa sc).toList _ HCC0.out Tryz.underlying38 rfl HS1.out ?_); rw [Array.toArray_toList])
    unfold Ms.ag at HCH
    refine HCH.out.mono ?_
    rintro e Z2 ⟨rfl, hb⟩
    have HZ2B := Lib.hid (HZB.out.trans (hb.mono HZB.out.size))
    have HBM2 := Lib.hid (HBM.out.later hb)
    have HAR2 := Lib.hid (Row.later HAR.out hb)
    have HRC2 := Lib.hid (show Z2.heap[W.heap.size]? = some (.cells (Ms.zero.cs none 0) 38 (0, 0)) from (hb.block _ (Array.getElem?_eq_some_iff.1 HRC.out).1).trans HRC.out)
    clear hb HCH
    cases hc : M.chk with
    | false =>
      have hme : M.err = 2 := by unfold Ms.err; rw [hc]; rfl
      have HRM := Lib.hid (show decM s = Ms.zero ∧ decME s = 4 from ⟨by rw [HDM.out, hc]; rfl, by rw [HDE.out, hc]; rfl⟩)
      rw [hme]
      clear hme hc
      go_wp2_with ((with_reducible refine wpList_store_row rfl 38 (.tmp 2) (.tmp 132) rfl rfl W.heap.size rfl 38 (Ms.zero.cs none 0) #[.int .i64 0, .int .i64 0, .int .u32 0, .int .u32 0, .int .i64 0, .bool false, .slice none 0 0, .int .i64 0, .int .u32 0, .int .u32 0, .int .i64 0, .int .i64 0, .int .u32 0, .int .i64 0, .int .i64 0, .int .i64 0, .int .u32 0, .int .u64 0, .int .u64 0, .int .u64 0, .int .u64 0, .int .i64 0, .int .i64 0, .int .i64 0, .int .u32 0, .int .u32 0, .int .u8 0, .int .i64 0, .int .u32 0, .int .i64 0, .int .u32 0, .int .u32 0] rfl HRC2.out info_zero HSS.out zero_one ?_))
      (try simp only [Exit.inBlock, Exit.then])
      refine bodyPost_ret (v := .tuple #[.agg (Ms.zero.cs none 0), .int .i64 4]) (results_cell rfl rfl rfl (box_setRow (n := Ms.zero) (sa := none) (sc := 0) (m := Ms.zero) HRC2.out) Tryz.underlying38 rfl (info_msg Ms.zero none 0)) rfl ?_
      show DecM W (decM s) (decME s) _ _
      rw [HRM.out.1, HRM.out.2]
      exact ⟨none, 0, rfl, arow_nil _ _, below_setRow HZ2B.out (Nat.le_refl _)⟩
    | true =>
      have hme : M.err = 0 := by unfold Ms.err; rw [hc]; rfl
      have HRM := Lib.hid (show decM s = M ∧ decME s = 0 from ⟨by rw [HDM.out, hc]; rfl, by rw [HDE.out, hc]; rfl⟩)
      rw [hme]
      clear hme hc
      have HCC := Lib.hid (block_cells HBM2.out)
      have HS2 := Lib.hid (HSZ'.out sa sc)
      have HS3 := Lib.hid (HSM.out sa sc)
      have HS4 := Lib.hid (HONE.out sa sc)
      go_wp2_with (first | ((with_reducible refine wpList_load_cs rfl 38 (.tmp 6) rfl ⟨g, 0, none⟩ rfl (M.cs sa sc).toList _ HCC.out Tryz.underlying38 rfl HS1.out ?_); rw [Array.toArray_toList]) | (with_reducible refine wpList_store_row rfl 38 (.tmp 2) (.tmp 133) rfl rfl W.heap.size rfl 38 (Ms.zero.cs none 0) (M.cs sa sc) rfl HRC2.out HS2.out HS3.out HS4.out ?_))
      (try simp only [Exit.inBlock, Exit.then])
      refine bodyPost_ret (v := .tuple #[.agg (M.cs sa sc), .int .i64 0]) (results_cell rfl rfl rfl (setRow_heap _ _ _ _ _ _ HRC2.out) Tryz.underlying38 rfl (info_msg M sa sc)) rfl ?_
      show DecM W (decM s) (decME s) _ _
      rw [HRM.out.1, HRM.out.2]
      refine ⟨sa, sc, rfl, ?_, below_setRow HZ2B.out (Nat.le_refl _)⟩
      refine (Row.more HAR2.out (Nat.le_succ _)).same fun k hk => ?_
      have := (Row.lt HAR2.out k hk).1
      exact setRow_other _ _ _ _ (by omega)

theorem rmdecode_any (s : ByteArray) (W : World) (hs : s.size ≤ 140737488355000) : Calls Tryz.prog 5 #[.string s] W (DecM W (decM s) (decME s)) := by
  by_cases h1 : 512 < s.size
  · exact rmdec_long s W h1 hs
  by_cases h2 : s.size < 3
  · exact rmdec_short s W h2
  by_cases h3 : openE s = 0
  · by_cases hk : 1 ≤ kindOf (openS s).data.toList ∧ kindOf (openS s).data.toList ≤ 5
    · rcases (show kindOf (openS s).data.toList = 1 ∨ kindOf (openS s).data.toList = 2 ∨ kindOf (openS s).data.toList = 3 ∨ kindOf (openS s).data.toList = 4 ∨ kindOf (openS s).data.toList = 5 by omega) with h | h | h | h | h
      · exact rmdec1 s W (by omega) (by omega) h3 h
      · exact rmdec2 s W (by omega) (by omega) h3 h
      · exact rmdec3 s W (by omega) (by omega) h3 h
      · exact rmdec4 s W (by omega) (by omega) h3 h
      · exact rmdec5 s W (by omega) (by omega) h3 h
    · exact rmdec0 s W (by omega) (by omega) h3 hk
  · exact rmdec_sum s W (by omega) (by omega) h3
set_option maxHeartbeats 1600000 in
theorem rmkind_any (s : ByteArray) (W : World) (hs : s.size ≤ 140737488355000) : Calls Tryz.prog 8 #[.string s] W fun e W' => e = .returned (.int .i64 (knd s)) ∧ Below W.heap.size W W' := by
  have HD := Lib.hid (rmdecode_any s W hs)
  obtain ⟨M, hM⟩ : ∃ M, M = decM s := ⟨_, rfl⟩
  obtain ⟨E, hE⟩ : ∃ E, E = decME s := ⟨_, rfl⟩
  have HK := Lib.hid (show knd s = if E = 0 then M.kd else 0 by rw [hE, hM]; rfl)
  rw [← hM, ← hE] at HD
  clear hM hE
  go_enter Tryz.func8, Tryz.ntmps8
  go_wp2_with fail
  refine HD.out.mono ?_
  rintro e V ⟨sa, sc, rfl, har, hb⟩
  unfold Ms.ag
  have HB := Lib.hid hb
  have HAL := Lib.hid (hal_new V #[.int .i64 0, .int .i64 0, .int .u32 0, .int .u32 0, .int .i64 0, .bool false, .slice none 0 0, .int .i64 0, .int .u32 0, .int .u32 0, .int .i64 0, .int .i64 0, .int .u32 0, .int .i64 0, .int .i64 0, .int .i64 0, .int .u32 0, .int .u64 0, .int .u64 0, .int .u64 0, .int .u64 0, .int .i64 0, .int .i64 0, .int .i64 0, .int .u32 0, .int .u32 0, .int .u8 0, .int .i64 0, .int .u32 0, .int .i64 0, .int .u32 0, .int .u32 0] 38)
  have HS2 := Lib.hid (info_msg' M sa sc)
  have HS3 := Lib.hid (show (#[.int .i64 0, .int .i64 0, .int .u32 0, .int .u32 0, .int .i64 0, .bool false, .slice none 0 0, .int .i64 0, .int .u32 0, .int .u32 0, .int .i64 0, .int .i64 0, .int .u32 0, .int .i64 0, .int .i64 0, .int .i64 0, .int .u32 0, .int .u64 0, .int .u64 0, .int .u64 0, .int .u64 0, .int .i64 0, .int .i64 0, .int .i64 0, .int .u32 0, .int .u32 0, .int .u8 0, .int .i64 0, .int .u32 0, .int .i64 0, .int .u32 0, .int .u32 0] : Array Value).size = (M.cs sa sc).size from rfl)
  have HS4 := Lib.hid (cs_one M sa sc)
  clear har hb HD
  go_upto_region 2 with ((with_reducible refine wpList_store_row rfl 38 (.tmp 3) (.tmp 8) rfl rfl V.heap.size rfl 38 #[.int .i64 0, .int .i64 0, .int .u32 0, .int .u32 0, .int .i64 0, .bool false, .slice none 0 0, .int .i64 0, .int .u32 0, .int .u32 0, .int .i64 0, .int .i64 0, .int .u32 0, .int .i64 0, .int .i64 0, .int .i64 0, .int .u32 0, .int .u64 0, .int .u64 0, .int .u64 0, .int .u64 0, .int .i64 0, .int .i64 0, .int .i64 0, .int .u32 0, .int .u32 0, .int .u8 0, .int .i64 0, .int .u32 0, .int .i64 0, .int .u32 0, .int .u32 0] (M.cs sa sc) rfl HAL.out HS2.out HS3.out HS4.out ?_))
  obtain ⟨Y, hY⟩ : ∃ Y, Y = (V.alloc (.cells #[.int .i64 0, .int .i64 0, .int .u32 0, .int .u32 0, .int .i64 0, .bool false, .slice none 0 0, .int .i64 0, .int .u32 0, .int .u32 0, .int .i64 0, .int .i64 0, .int .u32 0, .int .i64 0, .int .i64 0, .int .i64 0, .int .u32 0, .int .u64 0, .int .u64 0, .int .u64 0, .int .u64 0, .int .i64 0, .int .i64 0, .int .i64 0, .int .u32 0, .int .u32 0, .int .u8 0, .int .i64 0, .int .u32 0, .int .i64 0, .int .u32 0, .int .u32 0] 38)).setRow V.heap.size (M.cs sa sc) := ⟨_, rfl⟩
  have hgY : BoxM V.heap.size M sa sc Y := by rw [hY]; exact setRow_heap _ _ _ _ _ _ HAL.out
  have hbY : Below V.heap.size V Y := by rw [hY]; exact below_setRow ((Below.refl _ _).alloc (Nat.le_refl _) _) (Nat.le_refl _)
  have x0 : Y.cell? ⟨V.heap.size, 0, none⟩ = some (.int .i64 M.kd) := hgY.cell rfl
  have HBY := Lib.hid (HB.out.trans (hbY.mono HB.out.size))
  rw [← hY]
  clear hY hgY hbY
  by_cases h : E = 0
  · have HR := Lib.hid (show knd s = M.kd by rw [HK.out, if_pos h])
    subst h
    go_wp2_with fail
    go_returns
    exact ⟨by rw [HR.out]; rfl, HBY.out⟩
  · have HR := Lib.hid (show knd s = 0 by rw [HK.out, if_neg h])
    have e1 : (E == 0) = false := by rw [beq_eq_false_iff_ne]; exact h
    have e2 : (E != 0) = true := by rw [bne_iff_ne]; exact h
    clear h
    go_wp2_with fail
    go_returns
    exact ⟨by rw [HR.out]; rfl, HBY.out⟩


end Go.Proofs.YtickjmkkgcfkhaaGreat
