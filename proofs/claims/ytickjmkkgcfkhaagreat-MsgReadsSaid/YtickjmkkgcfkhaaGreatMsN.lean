/- Contract of the message's Decode. (Printed by mkmsn.py.) -/
import Derived.Test.YtickjmkkgcfkhaaGreatMsG
import Derived.Test.YtickjmkkgcfkhaaGreatMsM
import Derived.Test.YtickjmkkgcfkhaaGreatWireG2
import Derived.Laws.Tables
set_option linter.unusedSimpArgs false
set_option linter.unusedVariables false
set_option maxRecDepth 100000
set_option maxRecDepth 100000
namespace Go.Proofs.YtickjmkkgcfkhaaGreat
open Go.RowKit Go.ChangeShapes Go.WideShapes

/-- A whole struct laid into a block. -/
theorem wpList_store_row {P : Program} {w : World} {ops : Array Oper} {rest : List Oper} {o : Oper} {a : Act} {Q : Exit → Act → World → Prop} (hgd : o.guard = none) (ty : TypeId) (p x : Operand) (ho : o.op = .store ty p x) (hd : o.dst = none)
    (g : Nat) (hp : a.eval p = .pointer (some ⟨g, 0, none⟩)) (t : TypeId) (c c' : Array Value) (hx : a.eval x = .agg c') (hg : w.heap[g]? = some (.cells c t (0, 0))) (hi : (P.info? ty).map (·.size) = some c'.size) (hs : c.size = c'.size) (h1 : c'.all (·.oneCell') = true)
    (h : wpList P ops Q rest a (w.setRow g c')) : wpList P ops Q (o :: rest) a w :=
  wpList_plain hgd fun _ hK => by
    have hr : (execOp a.eval o).run P w = .ok .skip (w.setRow g c') := by
      unfold execOp
      simp only [ho, hp, hx, Instr.storeAt, Instr.sureAddr, Sem.run_bind, Sem.run_pure, Result.andThen_ok, run_storeVar_row w g t ty c c' hg hi hs h1]
    unfold Oper.wp
    rw [hr, Oper.upon_skip, hd]
    exact hK _ _ h
theorem results_cell {P : Program} {fn : Func} {a b : Tmp} {t : TypeId} {w : World} {tmps cs : Array Value} {g : Nat} {ev : Value} {d : TypeDesc} (hres : fn.results = #[.cell a t, .tmp b]) (ha : tmps.getD a undef = .pointer (some ⟨g, 0, none⟩)) (hb : tmps.getD b undef = ev)
    (hg : w.heap[g]? = some (.cells cs t (0, 0))) (hu : P.underlying t = some d) (hd : d.isRow = true) (hi : (P.info? t).map (·.size) = some cs.toList.length) : (results fn tmps).run P w = .ok (.tuple #[.agg cs, ev]) w := by
  have hl := run_loadVar_cs (P := P) (w := w) t ⟨g, 0, none⟩ cs.toList d (block_cells hg) hu hd hi
  rw [Array.toArray_toList] at hl
  have ha' : tmps[a]?.getD undef = .pointer (some ⟨g, 0, none⟩) := by simpa using ha
  have hb' : tmps[b]?.getD undef = ev := by simpa using hb
  unfold results
  rw [hres]
  simp [ha', hb', asAddr, hl]
theorem box_setRow {V : World} {g : Nat} {m n : Ms} {sa ta : Option Addr} {sc tc : Nat} (h : BoxM g m sa sc V) : BoxM g n ta tc (V.setRow g (n.cs ta tc)) := setRow_heap V g _ _ _ _ h
theorem below_setRow {B : Nat} {W V : World} {g : Nat} {c : Array Value} (h : Below B W V) (hB : B ≤ g) : Below B W (V.setRow g c) :=
  ⟨h.os, h.tape, h.output, by have := h.size; simpa using this, fun k hk => (setRow_other V g k c (by omega)).trans (h.block k hk)⟩
theorem cs_one (m : Ms) (sa : Option Addr) (sc : Nat) : (m.cs sa sc).all (·.oneCell') = true := by rw [← Array.all_toList]; rfl
theorem info_msg' (m : Ms) (sa : Option Addr) (sc : Nat) : (Tryz.prog.info? 38).map (·.size) = some (m.cs sa sc).size := by
  show _ = some 32
  kernel_rfl
theorem info_zero : (Tryz.prog.info? 38).map (·.size) = some (#[.int .i64 0, .int .i64 0, .int .u32 0, .int .u32 0, .int .i64 0, .bool false, .slice none 0 0, .int .i64 0, .int .u32 0, .int .u32 0, .int .i64 0, .int .i64 0, .int .u32 0, .int .i64 0, .int .i64 0, .int .i64 0, .int .u32 0, .int .u64 0, .int .u64 0, .int .u64 0, .int .u64 0, .int .i64 0, .int .i64 0, .int .i64 0, .int .u32 0, .int .u32 0, .int .u8 0, .int .i64 0, .int .u32 0, .int .i64 0, .int .u32 0, .int .u32 0] : Array Value).size := by
  show _ = some 32
  kernel_rfl
theorem zero_one : (#[.int .i64 0, .int .i64 0, .int .u32 0, .int .u32 0, .int .i64 0, .bool false, .slice none 0 0, .int .i64 0, .int .u32 0, .int .u32 0, .int .i64 0, .int .i64 0, .int .u32 0, .int .i64 0, .int .i64 0, .int .i64 0, .int .u32 0, .int .u64 0, .int .u64 0, .int .u64 0, .int .u64 0, .int .i64 0, .int .i64 0, .int .i64 0, .int .u32 0, .int .u32 0, .int .u8 0, .int .i64 0, .int .u32 0, .int .i64 0, .int .u32 0, .int .u32 0] : Array Value).all (·.oneCell') = true := cs_one Ms.zero none 0
def DecM (W : World) (m : Ms) (d : Int) (e : Ending) (W' : World) : Prop := ∃ sa sc, e = .returned (.tuple #[m.ag sa sc, .int .i64 d]) ∧ ARow W' W.heap.size sa sc m.rc.adjs ∧ Below W.heap.size W W'

theorem wpOrd_now {P : Program} {ops : Array Oper} {Q : Exit → Act → World → Prop} {S : World → Prop} {i : Nat} {o : Oper} {v : Value} {d : Tmp} {r : List (Nat × Bool)} {a : Act} {w : World} (ho : ops[i]? = some o) (hd : o.dst = some d) (hw : Region.wanted o (yielded ops a.tmps) = true)
    (hr : (execOp a.eval o).run P w = .ok (.value v) w) (hS : S w) (h : wpOrd P ops Q S r { tmps := a.tmps.setIfInBounds d v, defers := a.defers } w) : wpOrd P ops Q S ((i, false) :: r) a w :=
  wpOrd_do ho hw fun K hK => by
    unfold Oper.wp
    rw [hr, Oper.upon_value, hd]
    exact hK _ _ hS h
/-- What is there while bytes are read. -/
structure DcS (W : World) (q : Nat) (row : Array Value) (V : World) : Prop where
  bel : Below W.heap.size W V
  res : V.heap[W.heap.size]? = some (.cells (Ms.zero.cs none 0) 38 (0, 0))
  row : V.heap[q]? = some (.cells row 54 (0, 0))
theorem DcS.later {W V X : World} {q : Nat} {row : Array Value} (h : DcS W q row V) (hb : Below V.heap.size V X) : DcS W q row X :=
  ⟨h.bel.trans (hb.mono h.bel.size), (hb.block _ (Array.getElem?_eq_some_iff.1 h.res).1).trans h.res, (hb.block q (Array.getElem?_eq_some_iff.1 h.row).1).trans h.row⟩
theorem DcS.r {W V : World} {q : Nat} {row : Array Value} (h : DcS W q row V) (i : Nat) (u : Value) (hu : row[i]? = some u) : V.cell? ⟨q, i, none⟩ = some u := (cell_of_row _ _ i _ _ _ h.row).trans hu
theorem DcS.gr {W V X : World} {q g : Nat} {row : Array Value} (h : DcS W q row V) (hg : V.grownBy X (some g)) (h1 : g ≠ q) (h2 : W.heap.size < g) : DcS W q row X :=
  ⟨h.bel.grown hg h.bel.size (fun k hk => by cases hk; omega), (hg.block _ (Array.getElem?_eq_some_iff.1 h.res).1 (fun e => by cases e; omega)).trans h.res, (hg.block q (Array.getElem?_eq_some_iff.1 h.row).1 (fun e => by cases e; exact h1 rfl)).trans h.row⟩

theorem enter_read1 (args : Array Value) (w : World) : (callFunc 46 args).run Tryz.prog w = .ok (.enter 46 args) w := enters_of Tryz.func46 (by kernel_rfl) rfl args w
theorem enter_read2 (args : Array Value) (w : World) : (callFunc 51 args).run Tryz.prog w = .ok (.enter 51 args) w := enters_of Tryz.func51 (by kernel_rfl) rfl args w
theorem enter_read3 (args : Array Value) (w : World) : (callFunc 57 args).run Tryz.prog w = .ok (.enter 57 args) w := enters_of Tryz.func57 (by kernel_rfl) rfl args w
theorem enter_read4 (args : Array Value) (w : World) : (callFunc 64 args).run Tryz.prog w = .ok (.enter 64 args) w := enters_of Tryz.func64 (by kernel_rfl) rfl args w
theorem enter_read5 (args : Array Value) (w : World) : (callFunc 68 args).run Tryz.prog w = .ok (.enter 68 args) w := enters_of Tryz.func68 (by kernel_rfl) rfl args w
set_option maxHeartbeats 3200000 in
theorem mdec_long (s : ByteArray) (W : World) (h : 512 < s.size) (hs : s.size ≤ 140737488355000) : Calls Tryz.prog 4 #[.string s] W (DecM W (decM s) (decME s)) := by
  have he : decME s = 3 := if_pos h
  have HE := Lib.hid (show decM s = Ms.zero ∧ decME s = 3 from ⟨by unfold decM; rw [he]; rfl, he⟩)
  rw [show decM s = Ms.zero from HE.out.1, show decME s = 3 from HE.out.2]
  obtain ⟨W1, hW1⟩ : ∃ W1, W1 = W.alloc (.cells #[.int .i64 0, .int .i64 0, .int .u32 0, .int .u32 0, .int .i64 0, .bool false, .slice none 0 0, .int .i64 0, .int .u32 0, .int .u32 0, .int .i64 0, .int .i64 0, .int .u32 0, .int .i64 0, .int .i64 0, .int .i64 0, .int .u32 0, .int .u64 0, .int .u64 0, .int .u64 0, .int .u64 0, .int .i64 0, .int .i64 0, .int .i64 0, .int .u32 0, .int .u32 0, .int .u8 0, .int .i64 0, .int .u32 0, .int .i64 0, .int .u32 0, .int .u32 0] 38) := ⟨_, rfl⟩
  have hb1 : Below W.heap.size W W1 := by rw [hW1]; exact (Below.refl _ _).alloc (Nat.le_refl _) _
  have hbx : BoxM W.heap.size Ms.zero none 0 W1 := by rw [hW1]; exact heap_alloc_new _ _
  have HBX := Lib.hid hbx
  have HBC := Lib.hid (show W1.heap[W.heap.size]? = some (.cells (Ms.zero.cs none 0) 38 (0, 0)) from hbx)
  have HSS := Lib.hid (show (Ms.zero.cs none 0).size = (#[.int .i64 0, .int .i64 0, .int .u32 0, .int .u32 0, .int .i64 0, .bool false, .slice none 0 0, .int .i64 0, .int .u32 0, .int .u32 0, .int .i64 0, .int .i64 0, .int .u32 0, .int .i64 0, .int .i64 0, .int .i64 0, .int .u32 0, .int .u64 0, .int .u64 0, .int .u64 0, .int .u64 0, .int .i64 0, .int .i64 0, .int .i64 0, .int .u32 0, .int .u32 0, .int .u8 0, .int .i64 0, .int .u32 0, .int .i64 0, .int .u32 0, .int .u32 0] : Array Value).size from rfl)
  have HW1 := Lib.hid hW1
  have HB1 := Lib.hid hb1
  have d1 : decide (512 < (s.size : Int)) = true := decide_eq_true (by omega)
  have hn : s.size ≤ 140737488355000 := hs
  clear hW1 hb1 hbx he
  go_enter Tryz.func4, Tryz.ntmps4
  go_upto_region 1 with fail
  rw [← HW1.out]
  go_wp2_with ((with_reducible refine wpList_store_row rfl 38 (.tmp 2) (.tmp 13) rfl rfl W.heap.size rfl 38 (Ms.zero.cs none 0) #[.int .i64 0, .int .i64 0, .int .u32 0, .int .u32 0, .int .i64 0, .bool false, .slice none 0 0, .int .i64 0, .int .u32 0, .int .u32 0, .int .i64 0, .int .i64 0, .int .u32 0, .int .i64 0, .int .i64 0, .int .i64 0, .int .u32 0, .int .u64 0, .int .u64 0, .int .u64 0, .int .u64 0, .int .i64 0, .int .i64 0, .int .i64 0, .int .u32 0, .int .u32 0, .int .u8 0, .int .i64 0, .int .u32 0, .int .i64 0, .int .u32 0, .int .u32 0] rfl HBC.out info_zero HSS.out zero_one ?_))
  (try simp only [Exit.inBlock, Exit.then])
  exact bodyPost_ret (v := .tuple #[.agg (Ms.zero.cs none 0), .int .i64 3]) (results_cell rfl rfl rfl (box_setRow (n := Ms.zero) HBX.out) Tryz.underlying38 rfl (info_msg Ms.zero none 0)) rfl ⟨none, 0, rfl, arow_nil _ _, below_setRow HB1.out (Nat.le_refl _)⟩
set_option maxHeartbeats 3200000 in
theorem mdec_short (s : ByteArray) (W : World) (h : s.size < 3) : Calls Tryz.prog 4 #[.string s] W (DecM W (decM s) (decME s)) := by
  have he : decME s = 4 := (if_neg (by omega)).trans (if_pos h)
  have HE := Lib.hid (show decM s = Ms.zero ∧ decME s = 4 from ⟨by unfold decM; rw [he]; rfl, he⟩)
  rw [show decM s = Ms.zero from HE.out.1, show decME s = 4 from HE.out.2]
  obtain ⟨W1, hW1⟩ : ∃ W1, W1 = W.alloc (.cells #[.int .i64 0, .int .i64 0, .int .u32 0, .int .u32 0, .int .i64 0, .bool false, .slice none 0 0, .int .i64 0, .int .u32 0, .int .u32 0, .int .i64 0, .int .i64 0, .int .u32 0, .int .i64 0, .int .i64 0, .int .i64 0, .int .u32 0, .int .u64 0, .int .u64 0, .int .u64 0, .int .u64 0, .int .i64 0, .int .i64 0, .int .i64 0, .int .u32 0, .int .u32 0, .int .u8 0, .int .i64 0, .int .u32 0, .int .i64 0, .int .u32 0, .int .u32 0] 38) := ⟨_, rfl⟩
  have hb1 : Below W.heap.size W W1 := by rw [hW1]; exact (Below.refl _ _).alloc (Nat.le_refl _) _
  have hbx : BoxM W.heap.size Ms.zero none 0 W1 := by rw [hW1]; exact heap_alloc_new _ _
  have HBX := Lib.hid hbx
  have HBC := Lib.hid (show W1.heap[W.heap.size]? = some (.cells (Ms.zero.cs none 0) 38 (0, 0)) from hbx)
  have HSS := Lib.hid (show (Ms.zero.cs none 0).size = (#[.int .i64 0, .int .i64 0, .int .u32 0, .int .u32 0, .int .i64 0, .bool false, .slice none 0 0, .int .i64 0, .int .u32 0, .int .u32 0, .int .i64 0, .int .i64 0, .int .u32 0, .int .i64 0, .int .i64 0, .int .i64 0, .int .u32 0, .int .u64 0, .int .u64 0, .int .u64 0, .int .u64 0, .int .i64 0, .int .i64 0, .int .i64 0, .int .u32 0, .int .u32 0, .int .u8 0, .int .i64 0, .int .u32 0, .int .i64 0, .int .u32 0, .int .u32 0] : Array Value).size from rfl)
  have HW1 := Lib.hid hW1
  have HB1 := Lib.hid hb1
  have d1 : decide (512 < (s.size : Int)) = false := decide_eq_false (by omega)
  have d2 : decide ((s.size : Int) < 3) = true := decide_eq_true (by omega)
  clear hW1 hb1 hbx he
  go_enter Tryz.func4, Tryz.ntmps4
  go_upto_region 1 with fail
  rw [← HW1.out]
  go_wp2_with ((with_reducible refine wpList_store_row rfl 38 (.tmp 2) (.tmp 18) rfl rfl W.heap.size rfl 38 (Ms.zero.cs none 0) #[.int .i64 0, .int .i64 0, .int .u32 0, .int .u32 0, .int .i64 0, .bool false, .slice none 0 0, .int .i64 0, .int .u32 0, .int .u32 0, .int .i64 0, .int .i64 0, .int .u32 0, .int .i64 0, .int .i64 0, .int .i64 0, .int .u32 0, .int .u64 0, .int .u64 0, .int .u64 0, .int .u64 0, .int .i64 0, .int .i64 0, .int .i64 0, .int .u32 0, .int .u32 0, .int .u8 0, .int .i64 0, .int .u32 0, .int .i64 0, .int .u32 0, .int .u32 0] rfl HBC.out info_zero HSS.out zero_one ?_))
  (try simp only [Exit.inBlock, Exit.then])
  exact bodyPost_ret (v := .tuple #[.agg (Ms.zero.cs none 0), .int .i64 4]) (results_cell rfl rfl rfl (box_setRow (n := Ms.zero) HBX.out) Tryz.underlying38 rfl (info_msg Ms.zero none 0)) rfl ⟨none, 0, rfl, arow_nil _ _, below_setRow HB1.out (Nat.le_refl _)⟩
set_option maxHeartbeats 3200000 in
theorem mdec_sum (s : ByteArray) (W : World) (h1 : 3 ≤ s.size) (h2 : s.size ≤ 512) (h : openE s ≠ 0) : Calls Tryz.prog 4 #[.string s] W (DecM W (decM s) (decME s)) := by
  have he : decME s = (openE s) := (if_neg (by omega)).trans ((if_neg (by omega)).trans (if_neg h))
  have HE := Lib.hid (show decM s = Ms.zero ∧ decME s = (openE s) from ⟨by unfold decM; rw [he, if_neg h], he⟩)
  rw [show decM s = Ms.zero from HE.out.1, show decME s = (openE s) from HE.out.2]
  obtain ⟨W1, hW1⟩ : ∃ W1, W1 = W.alloc (.cells #[.int .i64 0, .int .i64 0, .int .u32 0, .int .u32 0, .int .i64 0, .bool false, .slice none 0 0, .int .i64 0, .int .u32 0, .int .u32 0, .int .i64 0, .int .i64 0, .int .u32 0, .int .i64 0, .int .i64 0, .int .i64 0, .int .u32 0, .int .u64 0, .int .u64 0, .int .u64 0, .int .u64 0, .int .i64 0, .int .i64 0, .int .i64 0, .int .u32 0, .int .u32 0, .int .u8 0, .int .i64 0, .int .u32 0, .int .i64 0, .int .u32 0, .int .u32 0] 38) := ⟨_, rfl⟩
  have hb1 : Below W.heap.size W W1 := by rw [hW1]; exact (Below.refl _ _).alloc (Nat.le_refl _) _
  have hbx : BoxM W.heap.size Ms.zero none 0 W1 := by rw [hW1]; exact heap_alloc_new _ _
  have HBX := Lib.hid hbx
  have HBC := Lib.hid (show W1.heap[W.heap.size]? = some (.cells (Ms.zero.cs none 0) 38 (0, 0)) from hbx)
  have HSS := Lib.hid (show (Ms.zero.cs none 0).size = (#[.int .i64 0, .int .i64 0, .int .u32 0, .int .u32 0, .int .i64 0, .bool false, .slice none 0 0, .int .i64 0, .int .u32 0, .int .u32 0, .int .i64 0, .int .i64 0, .int .u32 0, .int .i64 0, .int .i64 0, .int .i64 0, .int .u32 0, .int .u64 0, .int .u64 0, .int .u64 0, .int .u64 0, .int .i64 0, .int .i64 0, .int .i64 0, .int .u32 0, .int .u32 0, .int .u8 0, .int .i64 0, .int .u32 0, .int .i64 0, .int .u32 0, .int .u32 0] : Array Value).size from rfl)
  have HW1 := Lib.hid hW1
  have HB1 := Lib.hid hb1
  have hs2 : ¬ 512 < s.size := by omega
  have hs3 : ¬ s.size < 3 := by omega
  have d1 : decide (512 < (s.size : Int)) = false := decide_eq_false (by omega)
  have d2 : decide ((s.size : Int) < 3) = false := decide_eq_false (by omega)
  obtain ⟨os, hos⟩ : ∃ o, o = openS s := ⟨_, rfl⟩
  obtain ⟨oe, hoe⟩ : ∃ o, o = openE s := ⟨_, rfl⟩
  have HOS := Lib.hid hos
  have HOE := Lib.hid hoe
  have HOP := Lib.hid (open_any s W1 (by omega))
  have e1 : (oe == 0) = false := by rw [beq_eq_false_iff_ne, hoe]; exact h
  have e2 : (oe != 0) = true := by rw [bne_iff_ne, hoe]; exact h
  rw [show openE s = oe from hoe.symm]
  clear hW1 hb1 hbx he hos hoe h
  go_enter Tryz.func4, Tryz.ntmps4
  go_upto_region 1 with fail
  rw [← HW1.out]
  go_wp2_with fail
  refine HOP.out.mono ?_
  rintro e V ⟨rfl, hb⟩
  rw [← HOS.out, ← HOE.out]
  have HBC1 := Lib.hid (show V.heap[W.heap.size]? = some (.cells (Ms.zero.cs none 0) 38 (0, 0)) from HBX.out.later hb)
  have HB2 := Lib.hid (HB1.out.trans (hb.mono HB1.out.size))
  clear hb
  go_wp2_with ((with_reducible refine wpList_store_row rfl 38 (.tmp 2) (.tmp 26) rfl rfl W.heap.size rfl 38 (Ms.zero.cs none 0) #[.int .i64 0, .int .i64 0, .int .u32 0, .int .u32 0, .int .i64 0, .bool false, .slice none 0 0, .int .i64 0, .int .u32 0, .int .u32 0, .int .i64 0, .int .i64 0, .int .u32 0, .int .i64 0, .int .i64 0, .int .i64 0, .int .u32 0, .int .u64 0, .int .u64 0, .int .u64 0, .int .u64 0, .int .i64 0, .int .i64 0, .int .i64 0, .int .u32 0, .int .u32 0, .int .u8 0, .int .i64 0, .int .u32 0, .int .i64 0, .int .u32 0, .int .u32 0] rfl HBC1.out info_zero HSS.out zero_one ?_))
  (try simp only [Exit.inBlock, Exit.then])
  exact bodyPost_ret (v := .tuple #[.agg (Ms.zero.cs none 0), .int .i64 oe]) (results_cell rfl rfl rfl (box_setRow (n := Ms.zero) (sa := none) (sc := 0) (m := Ms.zero) HBC1.out) Tryz.underlying38 rfl (info_msg Ms.zero none 0)) rfl ⟨none, 0, rfl, arow_nil _ _, below_setRow HB2.out (Nat.le_refl _)⟩
set_option maxHeartbeats 6400000 in
theorem mdec1 (s : ByteArray) (W : World) (h1 : 3 ≤ s.size) (h2 : s.size ≤ 512) (h3 : openE s = 0) (hk : kindOf (openS s).data.toList = 1) : Calls Tryz.prog 4 #[.string s] W (DecM W (decM s) (decME s)) := by
  obtain ⟨hsl, hsz⟩ := open_sealB h3
  obtain ⟨os, hos⟩ : ∃ o, o = openS s := ⟨_, rfl⟩
  rw [← hos] at hk hsz
  have ho1 : 1 ≤ os.size := by omega
  have ho2 : os.size ≤ 510 := by omega
  have ho3 : (1 : Int) ≤ (os.size : Int) := by omega
  have hx0 : (os[0].toNat : Int) = 1 := (kindOf_head (s := os) (by omega)).symm.trans hk
  obtain ⟨tl, htl⟩ : ∃ t, t = os.extract 1 os.size := ⟨_, rfl⟩
  have htl2 : tl.data.toList = os.data.toList.tail := by rw [htl]; exact tail_list os
  have hts : tl.size ≤ 1000 := by rw [htl, ByteArray.size_extract]; omega
  have hbo : bodyOk os.data.toList = (redOk 1 tl.data.toList && (Ms.got 1 tl.data.toList).chk) := by
    unfold bodyOk
    rw [hk, ← htl2]
    rfl
  have hde : decME s = if (redOk 1 tl.data.toList && (Ms.got 1 tl.data.toList).chk) = true then 0 else 4 := by
    unfold decME
    rw [if_neg (by omega), if_neg (by omega), if_pos h3, ← hos, hbo]
  have hdm : decM s = if decME s = 0 then Ms.got 1 tl.data.toList else Ms.zero := by
    unfold decM
    rw [← hos, hk, ← htl2]
  rw [hde] at hdm
  have hgo := got_ok 1 tl.data.toList (by unfold I64; omega)
  have hga := got_adjs 1 tl.data.toList
  obtain ⟨M, hM⟩ : ∃ M, M = Ms.got 1 tl.data.toList := ⟨_, rfl⟩
  obtain ⟨ro, hro⟩ : ∃ b, b = redOk 1 tl.data.toList := ⟨_, rfl⟩
  have er := enter_read1
  have HRD := Lib.hid (show ∀ (g : Nat) (U : World), BoxM g (Ms.m0 1) none 0 U → Calls Tryz.prog 46 #[.string tl, .pointer (some ⟨g, 0, none⟩)] U (fun e X => e = .returned (.bool ro) ∧ U.grownBy X (some g) ∧ (ro = true → ∃ sa sc, BoxM g M sa sc X ∧ ARow X U.heap.size sa sc M.rc.adjs)) from fun g U h => by
    rw [hM, hro]
    exact red1 tl g U hts h)
  rw [← hM, ← hro] at hde hdm
  rw [← hM] at hgo hga
  have hdl : decide (512 < (s.size : Int)) = false := decide_eq_false (by omega)
  have hdl2 : decide ((s.size : Int) < 3) = false := decide_eq_false (by omega)
  obtain ⟨W1, hW1⟩ : ∃ W1, W1 = W.alloc (.cells #[.int .i64 0, .int .i64 0, .int .u32 0, .int .u32 0, .int .i64 0, .bool false, .slice none 0 0, .int .i64 0, .int .u32 0, .int .u32 0, .int .i64 0, .int .i64 0, .int .u32 0, .int .i64 0, .int .i64 0, .int .i64 0, .int .u32 0, .int .u64 0, .int .u64 0, .int .u64 0, .int .u64 0, .int .i64 0, .int .i64 0, .int .i64 0, .int .u32 0, .int .u32 0, .int .u8 0, .int .i64 0, .int .u32 0, .int .i64 0, .int .u32 0, .int .u32 0] 38) := ⟨_, rfl⟩
  have hb1 : Below W.heap.size W W1 := by rw [hW1]; exact (Below.refl _ _).alloc (Nat.le_refl _) _
  have hbx : BoxM W.heap.size Ms.zero none 0 W1 := by rw [hW1]; exact heap_alloc_new _ _
  have HBX := Lib.hid hbx
  have HBC := Lib.hid (show W1.heap[W.heap.size]? = some (.cells (Ms.zero.cs none 0) 38 (0, 0)) from hbx)
  have HSS := Lib.hid (show (Ms.zero.cs none 0).size = (#[.int .i64 0, .int .i64 0, .int .u32 0, .int .u32 0, .int .i64 0, .bool false, .slice none 0 0, .int .i64 0, .int .u32 0, .int .u32 0, .int .i64 0, .int .i64 0, .int .u32 0, .int .i64 0, .int .i64 0, .int .i64 0, .int .u32 0, .int .u64 0, .int .u64 0, .int .u64 0, .int .u64 0, .int .i64 0, .int .i64 0, .int .i64 0, .int .u32 0, .int .u32 0, .int .u8 0, .int .i64 0, .int .u32 0, .int .i64 0, .int .u32 0, .int .u32 0] : Array Value).size from rfl)
  have HW1 := Lib.hid hW1
  have HB1 := Lib.hid hb1
  have HOF := Lib.hid (fun V => (of_any 1 V).mono fun e X h => show e = .returned (.tuple #[.agg #[.int .i64 1, .func (.func 42) #[] #[], .func (.func 44) #[] #[], .func (.func 46) #[] #[]], .bool true]) ∧ Below V.heap.size V X from h)
  have HOS := Lib.hid hos
  have HOE := Lib.hid h3
  have HOP := Lib.hid (open_any s W1 (by omega))
  have HIK := Lib.hid (show (Tryz.prog.info? 38).map (·.size) = some (#[.int .i64 1, .int .i64 0, .int .u32 0, .int .u32 0, .int .i64 0, .bool false, .slice none 0 0, .int .i64 0, .int .u32 0, .int .u32 0, .int .i64 0, .int .i64 0, .int .u32 0, .int .i64 0, .int .i64 0, .int .i64 0, .int .u32 0, .int .u64 0, .int .u64 0, .int .u64 0, .int .u64 0, .int .i64 0, .int .i64 0, .int .i64 0, .int .u32 0, .int .u32 0, .int .u8 0, .int .i64 0, .int .u32 0, .int .i64 0, .int .u32 0, .int .u32 0] : Array Value).size from info_msg' (Ms.m0 1) none 0)
  have HSK := Lib.hid (show (#[.int .i64 0, .int .i64 0, .int .u32 0, .int .u32 0, .int .i64 0, .bool false, .slice none 0 0, .int .i64 0, .int .u32 0, .int .u32 0, .int .i64 0, .int .i64 0, .int .u32 0, .int .i64 0, .int .i64 0, .int .i64 0, .int .u32 0, .int .u64 0, .int .u64 0, .int .u64 0, .int .u64 0, .int .i64 0, .int .i64 0, .int .i64 0, .int .u32 0, .int .u32 0, .int .u8 0, .int .i64 0, .int .u32 0, .int .i64 0, .int .u32 0, .int .u32 0] : Array Value).size = (#[.int .i64 1, .int .i64 0, .int .u32 0, .int .u32 0, .int .i64 0, .bool false, .slice none 0 0, .int .i64 0, .int .u32 0, .int .u32 0, .int .i64 0, .int .i64 0, .int .u32 0, .int .i64 0, .int .i64 0, .int .i64 0, .int .u32 0, .int .u64 0, .int .u64 0, .int .u64 0, .int .u64 0, .int .i64 0, .int .i64 0, .int .i64 0, .int .u32 0, .int .u32 0, .int .u8 0, .int .i64 0, .int .u32 0, .int .i64 0, .int .u32 0, .int .u32 0] : Array Value).size from rfl)
  have HOK := Lib.hid (show (#[.int .i64 1, .int .i64 0, .int .u32 0, .int .u32 0, .int .i64 0, .bool false, .slice none 0 0, .int .i64 0, .int .u32 0, .int .u32 0, .int .i64 0, .int .i64 0, .int .u32 0, .int .i64 0, .int .i64 0, .int .i64 0, .int .u32 0, .int .u64 0, .int .u64 0, .int .u64 0, .int .u64 0, .int .i64 0, .int .i64 0, .int .i64 0, .int .u32 0, .int .u32 0, .int .u8 0, .int .i64 0, .int .u32 0, .int .i64 0, .int .u32 0, .int .u32 0] : Array Value).all (·.oneCell') = true from cs_one (Ms.m0 1) none 0)
  have HGO := Lib.hid hgo
  have HGA := Lib.hid hga
  have HDE := Lib.hid hde
  have HDM := Lib.hid hdm
  have HSZ := Lib.hid (fun sa sc => info_msg M sa sc)
  have HSZ' := Lib.hid (fun sa sc => info_msg' M sa sc)
  have HONE := Lib.hid (fun sa sc => cs_one M sa sc)
  have HSM := Lib.hid (fun sa sc => show (Ms.zero.cs none 0).size = (M.cs sa sc).size from rfl)
  have HTL := Lib.hid htl
  have hos1 : 0 < os.size := by omega
  clear hW1 hb1 hbx hos h3 hk hbo hM hro hgo hga hde hdm htl htl2 hts hsl
  go_enter Tryz.func4, Tryz.ntmps4
  go_upto_region 1 with fail
  rw [← HW1.out]
  go_wp2_with fail
  refine HOP.out.mono ?_
  rintro e V ⟨rfl, hb⟩
  rw [← HOS.out, HOE.out]
  have HB2 := Lib.hid (HB1.out.trans (hb.mono HB1.out.size))
  have HZ2 := Lib.hid (HBX.out.later hb)
  have HAL := Lib.hid (show (V.alloc (.cells #[.int .i64 0, .int .i64 0, .int .u32 0, .int .u32 0, .int .i64 0, .bool false, .slice none 0 0, .int .i64 0, .int .u32 0, .int .u32 0, .int .i64 0, .int .i64 0, .int .u32 0, .int .i64 0, .int .i64 0, .int .i64 0, .int .u32 0, .int .u64 0, .int .u64 0, .int .u64 0, .int .u64 0, .int .i64 0, .int .i64 0, .int .i64 0, .int .u32 0, .int .u32 0, .int .u8 0, .int .i64 0, .int .u32 0, .int .i64 0, .int .u32 0, .int .u32 0] 38)).heap[V.heap.size]? = some (.cells #[.int .i64 0, .int .i64 0, .int .u32 0, .int .u32 0, .int .i64 0, .bool false, .slice none 0 0, .int .i64 0, .int .u32 0, .int .u32 0, .int .i64 0, .int .i64 0, .int .u32 0, .int .i64 0, .int .i64 0, .int .i64 0, .int .u32 0, .int .u64 0, .int .u64 0, .int .u64 0, .int .u64 0, .int .i64 0, .int .i64 0, .int .i64 0, .int .u32 0, .int .u32 0, .int .u8 0, .int .i64 0, .int .u32 0, .int .i64 0, .int .u32 0, .int .u32 0] 38 (0, 0)) from heap_alloc_new _ _)
  clear hb
  go_upto_region 9 with ((with_reducible refine wpList_store_row rfl 38 (.tmp 6) (.tmp 31) rfl rfl V.heap.size rfl 38 #[.int .i64 0, .int .i64 0, .int .u32 0, .int .u32 0, .int .i64 0, .bool false, .slice none 0 0, .int .i64 0, .int .u32 0, .int .u32 0, .int .i64 0, .int .i64 0, .int .u32 0, .int .i64 0, .int .i64 0, .int .i64 0, .int .u32 0, .int .u64 0, .int .u64 0, .int .u64 0, .int .u64 0, .int .i64 0, .int .i64 0, .int .i64 0, .int .u32 0, .int .u32 0, .int .u8 0, .int .i64 0, .int .u32 0, .int .i64 0, .int .u32 0, .int .u32 0] #[.int .i64 1, .int .i64 0, .int .u32 0, .int .u32 0, .int .i64 0, .bool false, .slice none 0 0, .int .i64 0, .int .u32 0, .int .u32 0, .int .i64 0, .int .i64 0, .int .u32 0, .int .i64 0, .int .i64 0, .int .i64 0, .int .u32 0, .int .u64 0, .int .u64 0, .int .u64 0, .int .u64 0, .int .i64 0, .int .i64 0, .int .i64 0, .int .u32 0, .int .u32 0, .int .u8 0, .int .i64 0, .int .u32 0, .int .i64 0, .int .u32 0, .int .u32 0] rfl HAL.out HIK.out HSK.out HOK.out ?_))
  obtain ⟨g, hg⟩ : ∃ g, g = V.heap.size := ⟨_, rfl⟩
  obtain ⟨Y, hY⟩ : ∃ Y, Y = (V.alloc (.cells #[.int .i64 0, .int .i64 0, .int .u32 0, .int .u32 0, .int .i64 0, .bool false, .slice none 0 0, .int .i64 0, .int .u32 0, .int .u32 0, .int .i64 0, .int .i64 0, .int .u32 0, .int .i64 0, .int .i64 0, .int .i64 0, .int .u32 0, .int .u64 0, .int .u64 0, .int .u64 0, .int .u64 0, .int .i64 0, .int .i64 0, .int .i64 0, .int .u32 0, .int .u32 0, .int .u8 0, .int .i64 0, .int .u32 0, .int .i64 0, .int .u32 0, .int .u32 0] 38)).setRow V.heap.size #[.int .i64 1, .int .i64 0, .int .u32 0, .int .u32 0, .int .i64 0, .bool false, .slice none 0 0, .int .i64 0, .int .u32 0, .int .u32 0, .int .i64 0, .int .i64 0, .int .u32 0, .int .i64 0, .int .i64 0, .int .i64 0, .int .u32 0, .int .u64 0, .int .u64 0, .int .u64 0, .int .u64 0, .int .i64 0, .int .i64 0, .int .i64 0, .int .u32 0, .int .u32 0, .int .u8 0, .int .i64 0, .int .u32 0, .int .i64 0, .int .u32 0, .int .u32 0] := ⟨_, rfl⟩
  have hgY : BoxM g (Ms.m0 1) none 0 Y := by rw [hY, hg]; exact setRow_heap _ _ _ _ _ _ HAL.out
  have hbY : Below V.heap.size V Y := by rw [hY]; exact below_setRow ((Below.refl _ _).alloc (Nat.le_refl _) _) (Nat.le_refl _)
  have HGY := Lib.hid hgY
  have HBY := Lib.hid (HB2.out.trans (hbY.mono HB2.out.size))
  have HZY := Lib.hid (HZ2.out.later hbY)
  have HGW := Lib.hid (show W.heap.size < g by rw [hg]; exact (Array.getElem?_eq_some_iff.1 HZ2.out).1)
  have x0 : Y.cell? ⟨g, 0, none⟩ = some (.int .i64 1) := hgY.cell rfl
  rw [← hY, ← hg]
  clear hY hg hgY hbY
  go_wp2_with fail
  refine (HOF.out Y).mono ?_
  rintro e V0 ⟨rfl, hb⟩
  obtain ⟨W2, hW2⟩ : ∃ W2, W2 = V0.alloc (.cells #[.int .i64 1, .func (.func 42) #[] #[], .func (.func 44) #[] #[], .func (.func 46) #[] #[]] 54) := ⟨_, rfl⟩
  obtain ⟨q, hq⟩ : ∃ q, q = V0.heap.size := ⟨_, rfl⟩
  have hb2 : Below Y.heap.size Y W2 := by rw [hW2]; exact hb.alloc hb.size _
  have HDS := Lib.hid (show DcS W q #[.int .i64 1, .func (.func 42) #[] #[], .func (.func 44) #[] #[], .func (.func 46) #[] #[]] W2 from ⟨HBY.out.trans (hb2.mono HBY.out.size), HZY.out.later hb2, by rw [hW2, hq]; exact heap_alloc_new _ _⟩)
  have HG2 := Lib.hid (show BoxM g (Ms.m0 1) none 0 W2 from HGY.out.later hb2)
  have HGQ := Lib.hid (show g ≠ q by
    have h1 := (Array.getElem?_eq_some_iff.1 HGY.out).1
    have h2 := hb.size
    omega)
  have HW2 := Lib.hid hW2
  have HQ := Lib.hid hq
  clear hb hb2 hW2 hq HOF x0
  go_wp2_with fail
  rw [← HQ.out, ← HW2.out]
  obtain ⟨U, hU⟩ : ∃ U, U = W2.drew := ⟨_, rfl⟩
  have HU := Lib.hid (show DcS W q #[.int .i64 1, .func (.func 42) #[] #[], .func (.func 44) #[] #[], .func (.func 46) #[] #[]] U by rw [hU]; exact HDS.out.later (drew_below _))
  have HGU := Lib.hid (show BoxM g (Ms.m0 1) none 0 U by rw [hU]; exact HG2.out)
  refine wp_region_ord [(0, true), (1, true), (2, true), (3, true), (4, true), (5, true), (6, true), (7, false), (8, true), (9, true), (10, true), (11, false), (12, false), (13, true), (14, true)] (DcS W q #[.int .i64 1, .func (.func 42) #[] #[], .func (.func 44) #[] #[], .func (.func 46) #[] #[]]) (by kernel_rfl) (by kernel_rfl) (by decide) (by kernel_rfl) (fun d _ _ _ _ h => by cases d <;> first | exact h | exact h.later (drew_below _)) (by rw [← hU]; exact HU.out) ?_
  rw [← hU]
  clear hU
  iterate 3 ((apply wpOrd_take rfl rfl (by kernel_rfl); (intro V hV; go_simp; rfl)); (try simp only [List.setIfInBounds_toArray, List.set_cons_succ, List.set_cons_zero]))
  iterate 2 ((apply wpOrd_take rfl rfl (by kernel_rfl); (intro V hV; have r3 := hV.r 3 _ rfl; go_simp; rfl)); (try simp only [List.setIfInBounds_toArray, List.set_cons_succ, List.set_cons_zero]))
  iterate 2 ((apply wpOrd_take rfl rfl (by kernel_rfl); (intro V hV; go_simp; rfl)); (try simp only [List.setIfInBounds_toArray, List.set_cons_succ, List.set_cons_zero]))
  rw [← HTL.out]
  apply wpOrd_do rfl (by kernel_rfl)
  intro K hK
  go_simp
  refine (HRD.out g U HGU.out).mono ?_
  rintro e X ⟨rfl, hgr, hyes⟩
  have HX := Lib.hid (HU.out.gr hgr HGQ.out HGW.out)
  have HYES := Lib.hid hyes
  refine hK _ _ HX.out ?_
  clear hK K hgr hyes
  cases ro with
  | false =>
    have HRM := Lib.hid (show decM s = Ms.zero ∧ decME s = 4 from ⟨HDM.out, HDE.out⟩)
    iterate 3 ((apply wpOrd_take rfl rfl (by kernel_rfl); (intro V hV; go_simp; rfl)); (try simp only [List.setIfInBounds_toArray, List.set_cons_succ, List.set_cons_zero]))
    (apply wpOrd_undone2 rfl rfl (by kernel_rfl) HX.out); (try simp only [List.setIfInBounds_toArray, List.set_cons_succ, List.set_cons_zero])
    (apply wpOrd_undone2 rfl rfl (by kernel_rfl) HX.out); (try simp only [List.setIfInBounds_toArray, List.set_cons_succ, List.set_cons_zero])
    iterate 1 ((apply wpOrd_skip rfl rfl (by kernel_rfl)); (try simp only [List.setIfInBounds_toArray, List.set_cons_succ, List.set_cons_zero]))
    iterate 1 ((apply wpOrd_take rfl rfl (by kernel_rfl); (intro V hV; go_simp; rfl)); (try simp only [List.setIfInBounds_toArray, List.set_cons_succ, List.set_cons_zero]))
    refine wpOrd_nil ?_
    have HRC := Lib.hid (show X.heap[W.heap.size]? = some (.cells (Ms.zero.cs none 0) 38 (0, 0)) from HX.out.res)
    go_wp2_with ((with_reducible refine wpList_store_row rfl 38 (.tmp 2) (.tmp 53) rfl rfl W.heap.size rfl 38 (Ms.zero.cs none 0) #[.int .i64 0, .int .i64 0, .int .u32 0, .int .u32 0, .int .i64 0, .bool false, .slice none 0 0, .int .i64 0, .int .u32 0, .int .u32 0, .int .i64 0, .int .i64 0, .int .u32 0, .int .i64 0, .int .i64 0, .int .i64 0, .int .u32 0, .int .u64 0, .int .u64 0, .int .u64 0, .int .u64 0, .int .i64 0, .int .i64 0, .int .i64 0, .int .u32 0, .int .u32 0, .int .u8 0, .int .i64 0, .int .u32 0, .int .i64 0, .int .u32 0, .int .u32 0] rfl HRC.out info_zero HSS.out zero_one ?_))
    (try simp only [Exit.inBlock, Exit.then])
    refine bodyPost_ret (v := .tuple #[.agg (Ms.zero.cs none 0), .int .i64 4]) (results_cell rfl rfl rfl (box_setRow (n := Ms.zero) (sa := none) (sc := 0) (m := Ms.zero) HRC.out) Tryz.underlying38 rfl (info_msg Ms.zero none 0)) rfl ?_
    show DecM W (decM s) (decME s) _ _
    rw [HRM.out.1, HRM.out.2]
    exact ⟨none, 0, rfl, arow_nil _ _, below_setRow HX.out.bel (Nat.le_refl _)⟩

  | true =>
    obtain ⟨sa, sc, hbM, har⟩ := HYES.out rfl
    have HBM := Lib.hid hbM
    have HAR := Lib.hid har
    have HCH := Lib.hid (mcheck_any M sa sc X HGO.out har.adjs (by have := HGA.out; unfold maxLen; omega))
    clear hbM har
    iterate 3 ((apply wpOrd_take rfl rfl (by kernel_rfl); (intro V hV; go_simp; rfl)); (try simp only [List.setIfInBounds_toArray, List.set_cons_succ, List.set_cons_zero]))
    ((apply wpOrd_now rfl rfl (by kernel_rfl) (run_load_cs _ _ 38 (.tmp 6) rfl ⟨g, 0, none⟩ rfl (M.cs sa sc).toList _ (block_cells HBM.out) Tryz.underlying38 rfl (HSZ.out sa sc)) HX.out); (try simp only [List.setIfInBounds_toArray, List.set_cons_succ, List.set_cons_zero])); rw [Array.toArray_toList]
    apply wpOrd_do rfl (by kernel_rfl)
    intro K hK
    unfold Ms.ag at HCH
    go_simp
    refine HCH.out.mono ?_
    rintro e Z ⟨rfl, hb⟩
    have HZ := Lib.hid (HX.out.later hb)
    have HBZ := Lib.hid (HBM.out.later hb)
    have HAZ := Lib.hid (Row.later HAR.out hb)
    refine hK _ _ HZ.out ?_
    clear hK K hb
    cases hc : M.chk with
    | false =>
      have hme : M.err = 2 := by unfold Ms.err; rw [hc]; rfl
      have HRM := Lib.hid (show decM s = Ms.zero ∧ decME s = 4 from ⟨by rw [HDM.out, hc]; rfl, by rw [HDE.out, hc]; rfl⟩)
      rw [hme]
      clear hme hc
      iterate 2 ((apply wpOrd_take rfl rfl (by kernel_rfl); (intro V hV; go_simp; rfl)); (try simp only [List.setIfInBounds_toArray, List.set_cons_succ, List.set_cons_zero]))
      refine wpOrd_nil ?_
      have HRC := Lib.hid (show Z.heap[W.heap.size]? = some (.cells (Ms.zero.cs none 0) 38 (0, 0)) from HZ.out.res)
      go_wp2_with ((with_reducible refine wpList_store_row rfl 38 (.tmp 2) (.tmp 53) rfl rfl W.heap.size rfl 38 (Ms.zero.cs none 0) #[.int .i64 0, .int .i64 0, .int .u32 0, .int .u32 0, .int .i64 0, .bool false, .slice none 0 0, .int .i64 0, .int .u32 0, .int .u32 0, .int .i64 0, .int .i64 0, .int .u32 0, .int .i64 0, .int .i64 0, .int .i64 0, .int .u32 0, .int .u64 0, .int .u64 0, .int .u64 0, .int .u64 0, .int .i64 0, .int .i64 0, .int .i64 0, .int .u32 0, .int .u32 0, .int .u8 0, .int .i64 0, .int .u32 0, .int .i64 0, .int .u32 0, .int .u32 0] rfl HRC.out info_zero HSS.out zero_one ?_))
      (try simp only [Exit.inBlock, Exit.then])
      refine bodyPost_ret (v := .tuple #[.agg (Ms.zero.cs none 0), .int .i64 4]) (results_cell rfl rfl rfl (box_setRow (n := Ms.zero) (sa := none) (sc := 0) (m := Ms.zero) HRC.out) Tryz.underlying38 rfl (info_msg Ms.zero none 0)) rfl ?_
      show DecM W (decM s) (decME s) _ _
      rw [HRM.out.1, HRM.out.2]
      exact ⟨none, 0, rfl, arow_nil _ _, below_setRow HZ.out.bel (Nat.le_refl _)⟩

    | true =>
      have hme : M.err = 0 := by unfold Ms.err; rw [hc]; rfl
      have HRM := Lib.hid (show decM s = M ∧ decME s = 0 from ⟨by rw [HDM.out, hc]; rfl, by rw [HDE.out, hc]; rfl⟩)
      rw [hme]
      clear hme hc
      iterate 2 ((apply wpOrd_take rfl rfl (by kernel_rfl); (intro V hV; go_simp; rfl)); (try simp only [List.setIfInBounds_toArray, List.set_cons_succ, List.set_cons_zero]))
      refine wpOrd_nil ?_
      have HCC := Lib.hid (block_cells HBZ.out)
      have HRC := Lib.hid (show Z.heap[W.heap.size]? = some (.cells (Ms.zero.cs none 0) 38 (0, 0)) from HZ.out.res)
      have HS1 := Lib.hid (HSZ.out sa sc)
      have HS2 := Lib.hid (HSZ'.out sa sc)
      have HS3 := Lib.hid (HSM.out sa sc)
      have HS4 := Lib.hid (HONE.out sa sc)
      go_wp2_with (first | ((with_reducible refine wpList_load_cs rfl 38 (.tmp 6) rfl ⟨g, 0, none⟩ rfl (M.cs sa sc).toList _ HCC.out Tryz.underlying38 rfl HS1.out ?_); rw [Array.toArray_toList]) | (with_reducible refine wpList_store_row rfl 38 (.tmp 2) (.tmp 54) rfl rfl W.heap.size rfl 38 (Ms.zero.cs none 0) (M.cs sa sc) rfl HRC.out HS2.out HS3.out HS4.out ?_))
      (try simp only [Exit.inBlock, Exit.then])
      refine bodyPost_ret (v := .tuple #[.agg (M.cs sa sc), .int .i64 0]) (results_cell rfl rfl rfl (setRow_heap _ _ _ _ _ _ HRC.out) Tryz.underlying38 rfl (info_msg M sa sc)) rfl ?_
      show DecM W (decM s) (decME s) _ _
      rw [HRM.out.1, HRM.out.2]
      refine ⟨sa, sc, rfl, ?_, below_setRow HZ.out.bel (Nat.le_refl _)⟩
      have hlt := (Array.getElem?_eq_some_iff.1 HU.out.res).1
      refine (Row.more HAZ.out (Nat.le_of_lt hlt)).same fun k hk => ?_
      have := (Row.lt HAZ.out k hk).1
      exact setRow_other _ _ _ _ (by omega)
set_option maxHeartbeats 6400000 in
theorem mdec2 (s : ByteArray) (W : World) (h1 : 3 ≤ s.size) (h2 : s.size ≤ 512) (h3 : openE s = 0) (hk : kindOf (openS s).data.toList = 2) : Calls Tryz.prog 4 #[.string s] W (DecM W (decM s) (decME s)) := by
  obtain ⟨hsl, hsz⟩ := open_sealB h3
  obtain ⟨os, hos⟩ : ∃ o, o = openS s := ⟨_, rfl⟩
  rw [← hos] at hk hsz
  have ho1 : 1 ≤ os.size := by omega
  have ho2 : os.size ≤ 510 := by omega
  have ho3 : (1 : Int) ≤ (os.size : Int) := by omega
  have hx0 : (os[0].toNat : Int) = 2 := (kindOf_head (s := os) (by omega)).symm.trans hk
  obtain ⟨tl, htl⟩ : ∃ t, t = os.extract 1 os.size := ⟨_, rfl⟩
  have htl2 : tl.data.toList = os.data.toList.tail := by rw [htl]; exact tail_list os
  have hts : tl.size ≤ 1000 := by rw [htl, ByteArray.size_extract]; omega
  have hbo : bodyOk os.data.toList = (redOk 2 tl.data.toList && (Ms.got 2 tl.data.toList).chk) := by
    unfold bodyOk
    rw [hk, ← htl2]
    rfl
  have hde : decME s = if (redOk 2 tl.data.toList && (Ms.got 2 tl.data.toList).chk) = true then 0 else 4 := by
    unfold decME
    rw [if_neg (by omega), if_neg (by omega), if_pos h3, ← hos, hbo]
  have hdm : decM s = if decME s = 0 then Ms.got 2 tl.data.toList else Ms.zero := by
    unfold decM
    rw [← hos, hk, ← htl2]
  rw [hde] at hdm
  have hgo := got_ok 2 tl.data.toList (by unfold I64; omega)
  have hga := got_adjs 2 tl.data.toList
  obtain ⟨M, hM⟩ : ∃ M, M = Ms.got 2 tl.data.toList := ⟨_, rfl⟩
  obtain ⟨ro, hro⟩ : ∃ b, b = redOk 2 tl.data.toList := ⟨_, rfl⟩
  have er := enter_read2
  have HRD := Lib.hid (show ∀ (g : Nat) (U : World), BoxM g (Ms.m0 2) none 0 U → Calls Tryz.prog 51 #[.string tl, .pointer (some ⟨g, 0, none⟩)] U (fun e X => e = .returned (.bool ro) ∧ U.grownBy X (some g) ∧ (ro = true → ∃ sa sc, BoxM g M sa sc X ∧ ARow X U.heap.size sa sc M.rc.adjs)) from fun g U h => by
    rw [hM, hro]
    exact red2 tl g U hts h)
  rw [← hM, ← hro] at hde hdm
  rw [← hM] at hgo hga
  have hdl : decide (512 < (s.size : Int)) = false := decide_eq_false (by omega)
  have hdl2 : decide ((s.size : Int) < 3) = false := decide_eq_false (by omega)
  obtain ⟨W1, hW1⟩ : ∃ W1, W1 = W.alloc (.cells #[.int .i64 0, .int .i64 0, .int .u32 0, .int .u32 0, .int .i64 0, .bool false, .slice none 0 0, .int .i64 0, .int .u32 0, .int .u32 0, .int .i64 0, .int .i64 0, .int .u32 0, .int .i64 0, .int .i64 0, .int .i64 0, .int .u32 0, .int .u64 0, .int .u64 0, .int .u64 0, .int .u64 0, .int .i64 0, .int .i64 0, .int .i64 0, .int .u32 0, .int .u32 0, .int .u8 0, .int .i64 0, .int .u32 0, .int .i64 0, .int .u32 0, .int .u32 0] 38) := ⟨_, rfl⟩
  have hb1 : Below W.heap.size W W1 := by rw [hW1]; exact (Below.refl _ _).alloc (Nat.le_refl _) _
  have hbx : BoxM W.heap.size Ms.zero none 0 W1 := by rw [hW1]; exact heap_alloc_new _ _
  have HBX := Lib.hid hbx
  have HBC := Lib.hid (show W1.heap[W.heap.size]? = some (.cells (Ms.zero.cs none 0) 38 (0, 0)) from hbx)
  have HSS := Lib.hid (show (Ms.zero.cs none 0).size = (#[.int .i64 0, .int .i64 0, .int .u32 0, .int .u32 0, .int .i64 0, .bool false, .slice none 0 0, .int .i64 0, .int .u32 0, .int .u32 0, .int .i64 0, .int .i64 0, .int .u32 0, .int .i64 0, .int .i64 0, .int .i64 0, .int .u32 0, .int .u64 0, .int .u64 0, .int .u64 0, .int .u64 0, .int .i64 0, .int .i64 0, .int .i64 0, .int .u32 0, .int .u32 0, .int .u8 0, .int .i64 0, .int .u32 0, .int .i64 0, .int .u32 0, .int .u32 0] : Array Value).size from rfl)
  have HW1 := Lib.hid hW1
  have HB1 := Lib.hid hb1
  have HOF := Lib.hid (fun V => (of_any 2 V).mono fun e X h => show e = .returned (.tuple #[.agg #[.int .i64 2, .func (.func 48) #[] #[], .func (.func 50) #[] #[], .func (.func 51) #[] #[]], .bool true]) ∧ Below V.heap.size V X from h)
  have HOS := Lib.hid hos
  have HOE := Lib.hid h3
  have HOP := Lib.hid (open_any s W1 (by omega))
  have HIK := Lib.hid (show (Tryz.prog.info? 38).map (·.size) = some (#[.int .i64 2, .int .i64 0, .int .u32 0, .int .u32 0, .int .i64 0, .bool false, .slice none 0 0, .int .i64 0, .int .u32 0, .int .u32 0, .int .i64 0, .int .i64 0, .int .u32 0, .int .i64 0, .int .i64 0, .int .i64 0, .int .u32 0, .int .u64 0, .int .u64 0, .int .u64 0, .int .u64 0, .int .i64 0, .int .i64 0, .int .i64 0, .int .u32 0, .int .u32 0, .int .u8 0, .int .i64 0, .int .u32 0, .int .i64 0, .int .u32 0, .int .u32 0] : Array Value).size from info_msg' (Ms.m0 2) none 0)
  have HSK := Lib.hid (show (#[.int .i64 0, .int .i64 0, .int .u32 0, .int .u32 0, .int .i64 0, .bool false, .slice none 0 0, .int .i64 0, .int .u32 0, .int .u32 0, .int .i64 0, .int .i64 0, .int .u32 0, .int .i64 0, .int .i64 0, .int .i64 0, .int .u32 0, .int .u64 0, .int .u64 0, .int .u64 0, .int .u64 0, .int .i64 0, .int .i64 0, .int .i64 0, .int .u32 0, .int .u32 0, .int .u8 0, .int .i64 0, .int .u32 0, .int .i64 0, .int .u32 0, .int .u32 0] : Array Value).size = (#[.int .i64 2, .int .i64 0, .int .u32 0, .int .u32 0, .int .i64 0, .bool false, .slice none 0 0, .int .i64 0, .int .u32 0, .int .u32 0, .int .i64 0, .int .i64 0, .int .u32 0, .int .i64 0, .int .i64 0, .int .i64 0, .int .u32 0, .int .u64 0, .int .u64 0, .int .u64 0, .int .u64 0, .int .i64 0, .int .i64 0, .int .i64 0, .int .u32 0, .int .u32 0, .int .u8 0, .int .i64 0, .int .u32 0, .int .i64 0, .int .u32 0, .int .u32 0] : Array Value).size from rfl)
  have HOK := Lib.hid (show (#[.int .i64 2, .int .i64 0, .int .u32 0, .int .u32 0, .int .i64 0, .bool false, .slice none 0 0, .int .i64 0, .int .u32 0, .int .u32 0, .int .i64 0, .int .i64 0, .int .u32 0, .int .i64 0, .int .i64 0, .int .i64 0, .int .u32 0, .int .u64 0, .int .u64 0, .int .u64 0, .int .u64 0, .int .i64 0, .int .i64 0, .int .i64 0, .int .u32 0, .int .u32 0, .int .u8 0, .int .i64 0, .int .u32 0, .int .i64 0, .int .u32 0, .int .u32 0] : Array Value).all (·.oneCell') = true from cs_one (Ms.m0 2) none 0)
  have HGO := Lib.hid hgo
  have HGA := Lib.hid hga
  have HDE := Lib.hid hde
  have HDM := Lib.hid hdm
  have HSZ := Lib.hid (fun sa sc => info_msg M sa sc)
  have HSZ' := Lib.hid (fun sa sc => info_msg' M sa sc)
  have HONE := Lib.hid (fun sa sc => cs_one M sa sc)
  have HSM := Lib.hid (fun sa sc => show (Ms.zero.cs none 0).size = (M.cs sa sc).size from rfl)
  have HTL := Lib.hid htl
  have hos1 : 0 < os.size := by omega
  clear hW1 hb1 hbx hos h3 hk hbo hM hro hgo hga hde hdm htl htl2 hts hsl
  go_enter Tryz.func4, Tryz.ntmps4
  go_upto_region 1 with fail
  rw [← HW1.out]
  go_wp2_with fail
  refine HOP.out.mono ?_
  rintro e V ⟨rfl, hb⟩
  rw [← HOS.out, HOE.out]
  have HB2 := Lib.hid (HB1.out.trans (hb.mono HB1.out.size))
  have HZ2 := Lib.hid (HBX.out.later hb)
  have HAL := Lib.hid (show (V.alloc (.cells #[.int .i64 0, .int .i64 0, .int .u32 0, .int .u32 0, .int .i64 0, .bool false, .slice none 0 0, .int .i64 0, .int .u32 0, .int .u32 0, .int .i64 0, .int .i64 0, .int .u32 0, .int .i64 0, .int .i64 0, .int .i64 0, .int .u32 0, .int .u64 0, .int .u64 0, .int .u64 0, .int .u64 0, .int .i64 0, .int .i64 0, .int .i64 0, .int .u32 0, .int .u32 0, .int .u8 0, .int .i64 0, .int .u32 0, .int .i64 0, .int .u32 0, .int .u32 0] 38)).heap[V.heap.size]? = some (.cells #[.int .i64 0, .int .i64 0, .int .u32 0, .int .u32 0, .int .i64 0, .bool false, .slice none 0 0, .int .i64 0, .int .u32 0, .int .u32 0, .int .i64 0, .int .i64 0, .int .u32 0, .int .i64 0, .int .i64 0, .int .i64 0, .int .u32 0, .int .u64 0, .int .u64 0, .int .u64 0, .int .u64 0, .int .i64 0, .int .i64 0, .int .i64 0, .int .u32 0, .int .u32 0, .int .u8 0, .int .i64 0, .int .u32 0, .int .i64 0, .int .u32 0, .int .u32 0] 38 (0, 0)) from heap_alloc_new _ _)
  clear hb
  go_upto_region 9 with ((with_reducible refine wpList_store_row rfl 38 (.tmp 6) (.tmp 31) rfl rfl V.heap.size rfl 38 #[.int .i64 0, .int .i64 0, .int .u32 0, .int .u32 0, .int .i64 0, .bool false, .slice none 0 0, .int .i64 0, .int .u32 0, .int .u32 0, .int .i64 0, .int .i64 0, .int .u32 0, .int .i64 0, .int .i64 0, .int .i64 0, .int .u32 0, .int .u64 0, .int .u64 0, .int .u64 0, .int .u64 0, .int .i64 0, .int .i64 0, .int .i64 0, .int .u32 0, .int .u32 0, .int .u8 0, .int .i64 0, .int .u32 0, .int .i64 0, .int .u32 0, .int .u32 0] #[.int .i64 2, .int .i64 0, .int .u32 0, .int .u32 0, .int .i64 0, .bool false, .slice none 0 0, .int .i64 0, .int .u32 0, .int .u32 0, .int .i64 0, .int .i64 0, .int .u32 0, .int .i64 0, .int .i64 0, .int .i64 0, .int .u32 0, .int .u64 0, .int .u64 0, .int .u64 0, .int .u64 0, .int .i64 0, .int .i64 0, .int .i64 0, .int .u32 0, .int .u32 0, .int .u8 0, .int .i64 0, .int .u32 0, .int .i64 0, .int .u32 0, .int .u32 0] rfl HAL.out HIK.out HSK.out HOK.out ?_))
  obtain ⟨g, hg⟩ : ∃ g, g = V.heap.size := ⟨_, rfl⟩
  obtain ⟨Y, hY⟩ : ∃ Y, Y = (V.alloc (.cells #[.int .i64 0, .int .i64 0, .int .u32 0, .int .u32 0, .int .i64 0, .bool false, .slice none 0 0, .int .i64 0, .int .u32 0, .int .u32 0, .int .i64 0, .int .i64 0, .int .u32 0, .int .i64 0, .int .i64 0, .int .i64 0, .int .u32 0, .int .u64 0, .int .u64 0, .int .u64 0, .int .u64 0, .int .i64 0, .int .i64 0, .int .i64 0, .int .u32 0, .int .u32 0, .int .u8 0, .int .i64 0, .int .u32 0, .int .i64 0, .int .u32 0, .int .u32 0] 38)).setRow V.heap.size #[.int .i64 2, .int .i64 0, .int .u32 0, .int .u32 0, .int .i64 0, .bool false, .slice none 0 0, .int .i64 0, .int .u32 0, .int .u32 0, .int .i64 0, .int .i64 0, .int .u32 0, .int .i64 0, .int .i64 0, .int .i64 0, .int .u32 0, .int .u64 0, .int .u64 0, .int .u64 0, .int .u64 0, .int .i64 0, .int .i64 0, .int .i64 0, .int .u32 0, .int .u32 0, .int .u8 0, .int .i64 0, .int .u32 0, .int .i64 0, .int .u32 0, .int .u32 0] := ⟨_, rfl⟩
  have hgY : BoxM g (Ms.m0 2) none 0 Y := by rw [hY, hg]; exact setRow_heap _ _ _ _ _ _ HAL.out
  have hbY : Below V.heap.size V Y := by rw [hY]; exact below_setRow ((Below.refl _ _).alloc (Nat.le_refl _) _) (Nat.le_refl _)
  have HGY := Lib.hid hgY
  have HBY := Lib.hid (HB2.out.trans (hbY.mono HB2.out.size))
  have HZY := Lib.hid (HZ2.out.later hbY)
  have HGW := Lib.hid (show W.heap.size < g by rw [hg]; exact (Array.getElem?_eq_some_iff.1 HZ2.out).1)
  have x0 : Y.cell? ⟨g, 0, none⟩ = some (.int .i64 2) := hgY.cell rfl
  rw [← hY, ← hg]
  clear hY hg hgY hbY
  go_wp2_with fail
  refine (HOF.out Y).mono ?_
  rintro e V0 ⟨rfl, hb⟩
  obtain ⟨W2, hW2⟩ : ∃ W2, W2 = V0.alloc (.cells #[.int .i64 2, .func (.func 48) #[] #[], .func (.func 50) #[] #[], .func (.func 51) #[] #[]] 54) := ⟨_, rfl⟩
  obtain ⟨q, hq⟩ : ∃ q, q = V0.heap.size := ⟨_, rfl⟩
  have hb2 : Below Y.heap.size Y W2 := by rw [hW2]; exact hb.alloc hb.size _
  have HDS := Lib.hid (show DcS W q #[.int .i64 2, .func (.func 48) #[] #[], .func (.func 50) #[] #[], .func (.func 51) #[] #[]] W2 from ⟨HBY.out.trans (hb2.mono HBY.out.size), HZY.out.later hb2, by rw [hW2, hq]; exact heap_alloc_new _ _⟩)
  have HG2 := Lib.hid (show BoxM g (Ms.m0 2) none 0 W2 from HGY.out.later hb2)
  have HGQ := Lib.hid (show g ≠ q by
    have h1 := (Array.getElem?_eq_some_iff.1 HGY.out).1
    have h2 := hb.size
    omega)
  have HW2 := Lib.hid hW2
  have HQ := Lib.hid hq
  clear hb hb2 hW2 hq HOF x0
  go_wp2_with fail
  rw [← HQ.out, ← HW2.out]
  obtain ⟨U, hU⟩ : ∃ U, U = W2.drew := ⟨_, rfl⟩
  have HU := Lib.hid (show DcS W q #[.int .i64 2, .func (.func 48) #[] #[], .func (.func 50) #[] #[], .func (.func 51) #[] #[]] U by rw [hU]; exact HDS.out.later (drew_below _))
  have HGU := Lib.hid (show BoxM g (Ms.m0 2) none 0 U by rw [hU]; exact HG2.out)
  refine wp_region_ord [(0, true), (1, true), (2, true), (3, true), (4, true), (5, true), (6, true), (7, false), (8, true), (9, true), (10, true), (11, false), (12, false), (13, true), (14, true)] (DcS W q #[.int .i64 2, .func (.func 48) #[] #[], .func (.func 50) #[] #[], .func (.func 51) #[] #[]]) (by kernel_rfl) (by kernel_rfl) (by decide) (by kernel_rfl) (fun d _ _ _ _ h => by cases d <;> first | exact h | exact h.later (drew_below _)) (by rw [← hU]; exact HU.out) ?_
  rw [← hU]
  clear hU
  iterate 3 ((apply wpOrd_take rfl rfl (by kernel_rfl); (intro V hV; go_simp; rfl)); (try simp only [List.setIfInBounds_toArray, List.set_cons_succ, List.set_cons_zero]))
  iterate 2 ((apply wpOrd_take rfl rfl (by kernel_rfl); (intro V hV; have r3 := hV.r 3 _ rfl; go_simp; rfl)); (try simp only [List.setIfInBounds_toArray, List.set_cons_succ, List.set_cons_zero]))
  iterate 2 ((apply wpOrd_take rfl rfl (by kernel_rfl); (intro V hV; go_simp; rfl)); (try simp only [List.setIfInBounds_toArray, List.set_cons_succ, List.set_cons_zero]))
  rw [← HTL.out]
  apply wpOrd_do rfl (by kernel_rfl)
  intro K hK
  go_simp
  refine (HRD.out g U HGU.out).mono ?_
  rintro e X ⟨rfl, hgr, hyes⟩
  have HX := Lib.hid (HU.out.gr hgr HGQ.out HGW.out)
  have HYES := Lib.hid hyes
  refine hK _ _ HX.out ?_
  clear hK K hgr hyes
  cases ro with
  | false =>
    have HRM := Lib.hid (show decM s = Ms.zero ∧ decME s = 4 from ⟨HDM.out, HDE.out⟩)
    iterate 3 ((apply wpOrd_take rfl rfl (by kernel_rfl); (intro V hV; go_simp; rfl)); (try simp only [List.setIfInBounds_toArray, List.set_cons_succ, List.set_cons_zero]))
    (apply wpOrd_undone2 rfl rfl (by kernel_rfl) HX.out); (try simp only [List.setIfInBounds_toArray, List.set_cons_succ, List.set_cons_zero])
    (apply wpOrd_undone2 rfl rfl (by kernel_rfl) HX.out); (try simp only [List.setIfInBounds_toArray, List.set_cons_succ, List.set_cons_zero])
    iterate 1 ((apply wpOrd_skip rfl rfl (by kernel_rfl)); (try simp only [List.setIfInBounds_toArray, List.set_cons_succ, List.set_cons_zero]))
    iterate 1 ((apply wpOrd_take rfl rfl (by kernel_rfl); (intro V hV; go_simp; rfl)); (try simp only [List.setIfInBounds_toArray, List.set_cons_succ, List.set_cons_zero]))
    refine wpOrd_nil ?_
    have HRC := Lib.hid (show X.heap[W.heap.size]? = some (.cells (Ms.zero.cs none 0) 38 (0, 0)) from HX.out.res)
    go_wp2_with ((with_reducible refine wpList_store_row rfl 38 (.tmp 2) (.tmp 53) rfl rfl W.heap.size rfl 38 (Ms.zero.cs none 0) #[.int .i64 0, .int .i64 0, .int .u32 0, .int .u32 0, .int .i64 0, .bool false, .slice none 0 0, .int .i64 0, .int .u32 0, .int .u32 0, .int .i64 0, .int .i64 0, .int .u32 0, .int .i64 0, .int .i64 0, .int .i64 0, .int .u32 0, .int .u64 0, .int .u64 0, .int .u64 0, .int .u64 0, .int .i64 0, .int .i64 0, .int .i64 0, .int .u32 0, .int .u32 0, .int .u8 0, .int .i64 0, .int .u32 0, .int .i64 0, .int .u32 0, .int .u32 0] rfl HRC.out info_zero HSS.out zero_one ?_))
    (try simp only [Exit.inBlock, Exit.then])
    refine bodyPost_ret (v := .tuple #[.agg (Ms.zero.cs none 0), .int .i64 4]) (results_cell rfl rfl rfl (box_setRow (n := Ms.zero) (sa := none) (sc := 0) (m := Ms.zero) HRC.out) Tryz.underlying38 rfl (info_msg Ms.zero none 0)) rfl ?_
    show DecM W (decM s) (decME s) _ _
    rw [HRM.out.1, HRM.out.2]
    exact ⟨none, 0, rfl, arow_nil _ _, below_setRow HX.out.bel (Nat.le_refl _)⟩

  | true =>
    obtain ⟨sa, sc, hbM, har⟩ := HYES.out rfl
    have HBM := Lib.hid hbM
    have HAR := Lib.hid har
    have HCH := Lib.hid (mcheck_any M sa sc X HGO.out har.adjs (by have := HGA.out; unfold maxLen; omega))
    clear hbM har
    iterate 3 ((apply wpOrd_take rfl rfl (by kernel_rfl); (intro V hV; go_simp; rfl)); (try simp only [List.setIfInBounds_toArray, List.set_cons_succ, List.set_cons_zero]))
    ((apply wpOrd_now rfl rfl (by kernel_rfl) (run_load_cs _ _ 38 (.tmp 6) rfl ⟨g, 0, none⟩ rfl (M.cs sa sc).toList _ (block_cells HBM.out) Tryz.underlying38 rfl (HSZ.out sa sc)) HX.out); (try simp only [List.setIfInBounds_toArray, List.set_cons_succ, List.set_cons_zero])); rw [Array.toArray_toList]
    apply wpOrd_do rfl (by kernel_rfl)
    intro K hK
    unfold Ms.ag at HCH
    go_simp
    refine HCH.out.mono ?_
    rintro e Z ⟨rfl, hb⟩
    have HZ := Lib.hid (HX.out.later hb)
    have HBZ := Lib.hid (HBM.out.later hb)
    have HAZ := Lib.hid (Row.later HAR.out hb)
    refine hK _ _ HZ.out ?_
    clear hK K hb
    cases hc : M.chk with
    | false =>
      have hme : M.err = 2 := by unfold Ms.err; rw [hc]; rfl
      have HRM := Lib.hid (show decM s = Ms.zero ∧ decME s = 4 from ⟨by rw [HDM.out, hc]; rfl, by rw [HDE.out, hc]; rfl⟩)
      rw [hme]
      clear hme hc
      iterate 2 ((apply wpOrd_take rfl rfl (by kernel_rfl); (intro V hV; go_simp; rfl)); (try simp only [List.setIfInBounds_toArray, List.set_cons_succ, List.set_cons_zero]))
      refine wpOrd_nil ?_
      have HRC := Lib.hid (show Z.heap[W.heap.size]? = some (.cells (Ms.zero.cs none 0) 38 (0, 0)) from HZ.out.res)
      go_wp2_with ((with_reducible refine wpList_store_row rfl 38 (.tmp 2) (.tmp 53) rfl rfl W.heap.size rfl 38 (Ms.zero.cs none 0) #[.int .i64 0, .int .i64 0, .int .u32 0, .int .u32 0, .int .i64 0, .bool false, .slice none 0 0, .int .i64 0, .int .u32 0, .int .u32 0, .int .i64 0, .int .i64 0, .int .u32 0, .int .i64 0, .int .i64 0, .int .i64 0, .int .u32 0, .int .u64 0, .int .u64 0, .int .u64 0, .int .u64 0, .int .i64 0, .int .i64 0, .int .i64 0, .int .u32 0, .int .u32 0, .int .u8 0, .int .i64 0, .int .u32 0, .int .i64 0, .int .u32 0, .int .u32 0] rfl HRC.out info_zero HSS.out zero_one ?_))
      (try simp only [Exit.inBlock, Exit.then])
      refine bodyPost_ret (v := .tuple #[.agg (Ms.zero.cs none 0), .int .i64 4]) (results_cell rfl rfl rfl (box_setRow (n := Ms.zero) (sa := none) (sc := 0) (m := Ms.zero) HRC.out) Tryz.underlying38 rfl (info_msg Ms.zero none 0)) rfl ?_
      show DecM W (decM s) (decME s) _ _
      rw [HRM.out.1, HRM.out.2]
      exact ⟨none, 0, rfl, arow_nil _ _, below_setRow HZ.out.bel (Nat.le_refl _)⟩

    | true =>
      have hme : M.err = 0 := by unfold Ms.err; rw [hc]; rfl
      have HRM := Lib.hid (show decM s = M ∧ decME s = 0 from ⟨by rw [HDM.out, hc]; rfl, by rw [HDE.out, hc]; rfl⟩)
      rw [hme]
      clear hme hc
      iterate 2 ((apply wpOrd_take rfl rfl (by kernel_rfl); (intro V hV; go_simp; rfl)); (try simp only [List.setIfInBounds_toArray, List.set_cons_succ, List.set_cons_zero]))
      refine wpOrd_nil ?_
      have HCC := Lib.hid (block_cells HBZ.out)
      have HRC := Lib.hid (show Z.heap[W.heap.size]? = some (.cells (Ms.zero.cs none 0) 38 (0, 0)) from HZ.out.res)
      have HS1 := Lib.hid (HSZ.out sa sc)
      have HS2 := Lib.hid (HSZ'.out sa sc)
      have HS3 := Lib.hid (HSM.out sa sc)
      have HS4 := Lib.hid (HONE.out sa sc)
      go_wp2_with (first | ((with_reducible refine wpList_load_cs rfl 38 (.tmp 6) rfl ⟨g, 0, none⟩ rfl (M.cs sa sc).toList _ HCC.out Tryz.underlying38 rfl HS1.out ?_); rw [Array.toArray_toList]) | (with_reducible refine wpList_store_row rfl 38 (.tmp 2) (.tmp 54) rfl rfl W.heap.size rfl 38 (Ms.zero.cs none 0) (M.cs sa sc) rfl HRC.out HS2.out HS3.out HS4.out ?_))
      (try simp only [Exit.inBlock, Exit.then])
      refine bodyPost_ret (v := .tuple #[.agg (M.cs sa sc), .int .i64 0]) (results_cell rfl rfl rfl (setRow_heap _ _ _ _ _ _ HRC.out) Tryz.underlying38 rfl (info_msg M sa sc)) rfl ?_
      show DecM W (decM s) (decME s) _ _
      rw [HRM.out.1, HRM.out.2]
      refine ⟨sa, sc, rfl, ?_, below_setRow HZ.out.bel (Nat.le_refl _)⟩
      have hlt := (Array.getElem?_eq_some_iff.1 HU.out.res).1
      refine (Row.more HAZ.out (Nat.le_of_lt hlt)).same fun k hk => ?_
      have := (Row.lt HAZ.out k hk).1
      exact setRow_other _ _ _ _ (by omega)
set_option maxHeartbeats 6400000 in
theorem mdec3 (s : ByteArray) (W : World) (h1 : 3 ≤ s.size) (h2 : s.size ≤ 512) (h3 : openE s = 0) (hk : kindOf (openS s).data.toList = 3) : Calls Tryz.prog 4 #[.string s] W (DecM W (decM s) (decME s)) := by
  obtain ⟨hsl, hsz⟩ := open_sealB h3
  obtain ⟨os, hos⟩ : ∃ o, o = openS s := ⟨_, rfl⟩
  rw [← hos] at hk hsz
  have ho1 : 1 ≤ os.size := by omega
  have ho2 : os.size ≤ 510 := by omega
  have ho3 : (1 : Int) ≤ (os.size : Int) := by omega
  have hx0 : (os[0].toNat : Int) = 3 := (kindOf_head (s := os) (by omega)).symm.trans hk
  obtain ⟨tl, htl⟩ : ∃ t, t = os.extract 1 os.size := ⟨_, rfl⟩
  have htl2 : tl.data.toList = os.data.toList.tail := by rw [htl]; exact tail_list os
  have hts : tl.size ≤ 1000 := by rw [htl, ByteArray.size_extract]; omega
  have hbo : bodyOk os.data.toList = (redOk 3 tl.data.toList && (Ms.got 3 tl.data.toList).chk) := by
    unfold bodyOk
    rw [hk, ← htl2]
    rfl
  have hde : decME s = if (redOk 3 tl.data.toList && (Ms.got 3 tl.data.toList).chk) = true then 0 else 4 := by
    unfold decME
    rw [if_neg (by omega), if_neg (by omega), if_pos h3, ← hos, hbo]
  have hdm : decM s = if decME s = 0 then Ms.got 3 tl.data.toList else Ms.zero := by
    unfold decM
    rw [← hos, hk, ← htl2]
  rw [hde] at hdm
  have hgo := got_ok 3 tl.data.toList (by unfold I64; omega)
  have hga := got_adjs 3 tl.data.toList
  obtain ⟨M, hM⟩ : ∃ M, M = Ms.got 3 tl.data.toList := ⟨_, rfl⟩
  obtain ⟨ro, hro⟩ : ∃ b, b = redOk 3 tl.data.toList := ⟨_, rfl⟩
  have er := enter_read3
  have HRD := Lib.hid (show ∀ (g : Nat) (U : World), BoxM g (Ms.m0 3) none 0 U → Calls Tryz.prog 57 #[.string tl, .pointer (some ⟨g, 0, none⟩)] U (fun e X => e = .returned (.bool ro) ∧ U.grownBy X (some g) ∧ (ro = true → ∃ sa sc, BoxM g M sa sc X ∧ ARow X U.heap.size sa sc M.rc.adjs)) from fun g U h => by
    rw [hM, hro]
    exact red3 tl g U hts h)
  rw [← hM, ← hro] at hde hdm
  rw [← hM] at hgo hga
  have hdl : decide (512 < (s.size : Int)) = false := decide_eq_false (by omega)
  have hdl2 : decide ((s.size : Int) < 3) = false := decide_eq_false (by omega)
  obtain ⟨W1, hW1⟩ : ∃ W1, W1 = W.alloc (.cells #[.int .i64 0, .int .i64 0, .int .u32 0, .int .u32 0, .int .i64 0, .bool false, .slice none 0 0, .int .i64 0, .int .u32 0, .int .u32 0, .int .i64 0, .int .i64 0, .int .u32 0, .int .i64 0, .int .i64 0, .int .i64 0, .int .u32 0, .int .u64 0, .int .u64 0, .int .u64 0, .int .u64 0, .int .i64 0, .int .i64 0, .int .i64 0, .int .u32 0, .int .u32 0, .int .u8 0, .int .i64 0, .int .u32 0, .int .i64 0, .int .u32 0, .int .u32 0] 38) := ⟨_, rfl⟩
  have hb1 : Below W.heap.size W W1 := by rw [hW1]; exact (Below.refl _ _).alloc (Nat.le_refl _) _
  have hbx : BoxM W.heap.size Ms.zero none 0 W1 := by rw [hW1]; exact heap_alloc_new _ _
  have HBX := Lib.hid hbx
  have HBC := Lib.hid (show W1.heap[W.heap.size]? = some (.cells (Ms.zero.cs none 0) 38 (0, 0)) from hbx)
  have HSS := Lib.hid (show (Ms.zero.cs none 0).size = (#[.int .i64 0, .int .i64 0, .int .u32 0, .int .u32 0, .int .i64 0, .bool false, .slice none 0 0, .int .i64 0, .int .u32 0, .int .u32 0, .int .i64 0, .int .i64 0, .int .u32 0, .int .i64 0, .int .i64 0, .int .i64 0, .int .u32 0, .int .u64 0, .int .u64 0, .int .u64 0, .int .u64 0, .int .i64 0, .int .i64 0, .int .i64 0, .int .u32 0, .int .u32 0, .int .u8 0, .int .i64 0, .int .u32 0, .int .i64 0, .int .u32 0, .int .u32 0] : Array Value).size from rfl)
  have HW1 := Lib.hid hW1
  have HB1 := Lib.hid hb1
  have HOF := Lib.hid (fun V => (of_any 3 V).mono fun e X h => show e = .returned (.tuple #[.agg #[.int .i64 4, .func (.func 53) #[] #[], .func (.func 55) #[] #[], .func (.func 57) #[] #[]], .bool true]) ∧ Below V.heap.size V X from h)
  have HOS := Lib.hid hos
  have HOE := Lib.hid h3
  have HOP := Lib.hid (open_any s W1 (by omega))
  have HIK := Lib.hid (show (Tryz.prog.info? 38).map (·.size) = some (#[.int .i64 3, .int .i64 0, .int .u32 0, .int .u32 0, .int .i64 0, .bool false, .slice none 0 0, .int .i64 0, .int .u32 0, .int .u32 0, .int .i64 0, .int .i64 0, .int .u32 0, .int .i64 0, .int .i64 0, .int .i64 0, .int .u32 0, .int .u64 0, .int .u64 0, .int .u64 0, .int .u64 0, .int .i64 0, .int .i64 0, .int .i64 0, .int .u32 0, .int .u32 0, .int .u8 0, .int .i64 0, .int .u32 0, .int .i64 0, .int .u32 0, .int .u32 0] : Array Value).size from info_msg' (Ms.m0 3) none 0)
  have HSK := Lib.hid (show (#[.int .i64 0, .int .i64 0, .int .u32 0, .int .u32 0, .int .i64 0, .bool false, .slice none 0 0, .int .i64 0, .int .u32 0, .int .u32 0, .int .i64 0, .int .i64 0, .int .u32 0, .int .i64 0, .int .i64 0, .int .i64 0, .int .u32 0, .int .u64 0, .int .u64 0, .int .u64 0, .int .u64 0, .int .i64 0, .int .i64 0, .int .i64 0, .int .u32 0, .int .u32 0, .int .u8 0, .int .i64 0, .int .u32 0, .int .i64 0, .int .u32 0, .int .u32 0] : Array Value).size = (#[.int .i64 3, .int .i64 0, .int .u32 0, .int .u32 0, .int .i64 0, .bool false, .slice none 0 0, .int .i64 0, .int .u32 0, .int .u32 0, .int .i64 0, .int .i64 0, .int .u32 0, .int .i64 0, .int .i64 0, .int .i64 0, .int .u32 0, .int .u64 0, .int .u64 0, .int .u64 0, .int .u64 0, .int .i64 0, .int .i64 0, .int .i64 0, .int .u32 0, .int .u32 0, .int .u8 0, .int .i64 0, .int .u32 0, .int .i64 0, .int .u32 0, .int .u32 0] : Array Value).size from rfl)
  have HOK := Lib.hid (show (#[.int .i64 3, .int .i64 0, .int .u32 0, .int .u32 0, .int .i64 0, .bool false, .slice none 0 0, .int .i64 0, .int .u32 0, .int .u32 0, .int .i64 0, .int .i64 0, .int .u32 0, .int .i64 0, .int .i64 0, .int .i64 0, .int .u32 0, .int .u64 0, .int .u64 0, .int .u64 0, .int .u64 0, .int .i64 0, .int .i64 0, .int .i64 0, .int .u32 0, .int .u32 0, .int .u8 0, .int .i64 0, .int .u32 0, .int .i64 0, .int .u32 0, .int .u32 0] : Array Value).all (·.oneCell') = true from cs_one (Ms.m0 3) none 0)
  have HGO := Lib.hid hgo
  have HGA := Lib.hid hga
  have HDE := Lib.hid hde
  have HDM := Lib.hid hdm
  have HSZ := Lib.hid (fun sa sc => info_msg M sa sc)
  have HSZ' := Lib.hid (fun sa sc => info_msg' M sa sc)
  have HONE := Lib.hid (fun sa sc => cs_one M sa sc)
  have HSM := Lib.hid (fun sa sc => show (Ms.zero.cs none 0).size = (M.cs sa sc).size from rfl)
  have HTL := Lib.hid htl
  have hos1 : 0 < os.size := by omega
  clear hW1 hb1 hbx hos h3 hk hbo hM hro hgo hga hde hdm htl htl2 hts hsl
  go_enter Tryz.func4, Tryz.ntmps4
  go_upto_region 1 with fail
  rw [← HW1.out]
  go_wp2_with fail
  refine HOP.out.mono ?_
  rintro e V ⟨rfl, hb⟩
  rw [← HOS.out, HOE.out]
  have HB2 := Lib.hid (HB1.out.trans (hb.mono HB1.out.size))
  have HZ2 := Lib.hid (HBX.out.later hb)
  have HAL := Lib.hid (show (V.alloc (.cells #[.int .i64 0, .int .i64 0, .int .u32 0, .int .u32 0, .int .i64 0, .bool false, .slice none 0 0, .int .i64 0, .int .u32 0, .int .u32 0, .int .i64 0, .int .i64 0, .int .u32 0, .int .i64 0, .int .i64 0, .int .i64 0, .int .u32 0, .int .u64 0, .int .u64 0, .int .u64 0, .int .u64 0, .int .i64 0, .int .i64 0, .int .i64 0, .int .u32 0, .int .u32 0, .int .u8 0, .int .i64 0, .int .u32 0, .int .i64 0, .int .u32 0, .int .u32 0] 38)).heap[V.heap.size]? = some (.cells #[.int .i64 0, .int .i64 0, .int .u32 0, .int .u32 0, .int .i64 0, .bool false, .slice none 0 0, .int .i64 0, .int .u32 0, .int .u32 0, .int .i64 0, .int .i64 0, .int .u32 0, .int .i64 0, .int .i64 0, .int .i64 0, .int .u32 0, .int .u64 0, .int .u64 0, .int .u64 0, .int .u64 0, .int .i64 0, .int .i64 0, .int .i64 0, .int .u32 0, .int .u32 0, .int .u8 0, .int .i64 0, .int .u32 0, .int .i64 0, .int .u32 0, .int .u32 0] 38 (0, 0)) from heap_alloc_new _ _)
  clear hb
  go_upto_region 9 with ((with_reducible refine wpList_store_row rfl 38 (.tmp 6) (.tmp 31) rfl rfl V.heap.size rfl 38 #[.int .i64 0, .int .i64 0, .int .u32 0, .int .u32 0, .int .i64 0, .bool false, .slice none 0 0, .int .i64 0, .int .u32 0, .int .u32 0, .int .i64 0, .int .i64 0, .int .u32 0, .int .i64 0, .int .i64 0, .int .i64 0, .int .u32 0, .int .u64 0, .int .u64 0, .int .u64 0, .int .u64 0, .int .i64 0, .int .i64 0, .int .i64 0, .int .u32 0, .int .u32 0, .int .u8 0, .int .i64 0, .int .u32 0, .int .i64 0, .int .u32 0, .int .u32 0] #[.int .i64 3, .int .i64 0, .int .u32 0, .int .u32 0, .int .i64 0, .bool false, .slice none 0 0, .int .i64 0, .int .u32 0, .int .u32 0, .int .i64 0, .int .i64 0, .int .u32 0, .int .i64 0, .int .i64 0, .int .i64 0, .int .u32 0, .int .u64 0, .int .u64 0, .int .u64 0, .int .u64 0, .int .i64 0, .int .i64 0, .int .i64 0, .int .u32 0, .int .u32 0, .int .u8 0, .int .i64 0, .int .u32 0, .int .i64 0, .int .u32 0, .int .u32 0] rfl HAL.out HIK.out HSK.out HOK.out ?_))
  obtain ⟨g, hg⟩ : ∃ g, g = V.heap.size := ⟨_, rfl⟩
  obtain ⟨Y, hY⟩ : ∃ Y, Y = (V.alloc (.cells #[.int .i64 0, .int .i64 0, .int .u32 0, .int .u32 0, .int .i64 0, .bool false, .slice none 0 0, .int .i64 0, .int .u32 0, .int .u32 0, .int .i64 0, .int .i64 0, .int .u32 0, .int .i64 0, .int .i64 0, .int .i64 0, .int .u32 0, .int .u64 0, .int .u64 0, .int .u64 0, .int .u64 0, .int .i64 0, .int .i64 0, .int .i64 0, .int .u32 0, .int .u32 0, .int .u8 0, .int .i64 0, .int .u32 0, .int .i64 0, .int .u32 0, .int .u32 0] 38)).setRow V.heap.size #[.int .i64 3, .int .i64 0, .int .u32 0, .int .u32 0, .int .i64 0, .bool false, .slice none 0 0, .int .i64 0, .int .u32 0, .int .u32 0, .int .i64 0, .int .i64 0, .int .u32 0, .int .i64 0, .int .i64 0, .int .i64 0, .int .u32 0, .int .u64 0, .int .u64 0, .int .u64 0, .int .u64 0, .int .i64 0, .int .i64 0, .int .i64 0, .int .u32 0, .int .u32 0, .int .u8 0, .int .i64 0, .int .u32 0, .int .i64 0, .int .u32 0, .int .u32 0] := ⟨_, rfl⟩
  have hgY : BoxM g (Ms.m0 3) none 0 Y := by rw [hY, hg]; exact setRow_heap _ _ _ _ _ _ HAL.out
  have hbY : Below V.heap.size V Y := by rw [hY]; exact below_setRow ((Below.refl _ _).alloc (Nat.le_refl _) _) (Nat.le_refl _)
  have HGY := Lib.hid hgY
  have HBY := Lib.hid (HB2.out.trans (hbY.mono HB2.out.size))
  have HZY := Lib.hid (HZ2.out.later hbY)
  have HGW := Lib.hid (show W.heap.size < g by rw [hg]; exact (Array.getElem?_eq_some_iff.1 HZ2.out).1)
  have x0 : Y.cell? ⟨g, 0, none⟩ = some (.int .i64 3) := hgY.cell rfl
  rw [← hY, ← hg]
  clear hY hg hgY hbY
  go_wp2_with fail
  refine (HOF.out Y).mono ?_
  rintro e V0 ⟨rfl, hb⟩
  obtain ⟨W2, hW2⟩ : ∃ W2, W2 = V0.alloc (.cells #[.int .i64 4, .func (.func 53) #[] #[], .func (.func 55) #[] #[], .func (.func 57) #[] #[]] 54) := ⟨_, rfl⟩
  obtain ⟨q, hq⟩ : ∃ q, q = V0.heap.size := ⟨_, rfl⟩
  have hb2 : Below Y.heap.size Y W2 := by rw [hW2]; exact hb.alloc hb.size _
  have HDS := Lib.hid (show DcS W q #[.int .i64 4, .func (.func 53) #[] #[], .func (.func 55) #[] #[], .func (.func 57) #[] #[]] W2 from ⟨HBY.out.trans (hb2.mono HBY.out.size), HZY.out.later hb2, by rw [hW2, hq]; exact heap_alloc_new _ _⟩)
  have HG2 := Lib.hid (show BoxM g (Ms.m0 3) none 0 W2 from HGY.out.later hb2)
  have HGQ := Lib.hid (show g ≠ q by
    have h1 := (Array.getElem?_eq_some_iff.1 HGY.out).1
    have h2 := hb.size
    omega)
  have HW2 := Lib.hid hW2
  have HQ := Lib.hid hq
  clear hb hb2 hW2 hq HOF x0
  go_wp2_with fail
  rw [← HQ.out, ← HW2.out]
  obtain ⟨U, hU⟩ : ∃ U, U = W2.drew := ⟨_, rfl⟩
  have HU := Lib.hid (show DcS W q #[.int .i64 4, .func (.func 53) #[] #[], .func (.func 55) #[] #[], .func (.func 57) #[] #[]] U by rw [hU]; exact HDS.out.later (drew_below _))
  have HGU := Lib.hid (show BoxM g (Ms.m0 3) none 0 U by rw [hU]; exact HG2.out)
  refine wp_region_ord [(0, true), (1, true), (2, true), (3, true), (4, true), (5, true), (6, true), (7, false), (8, true), (9, true), (10, true), (11, false), (12, false), (13, true), (14, true)] (DcS W q #[.int .i64 4, .func (.func 53) #[] #[], .func (.func 55) #[] #[], .func (.func 57) #[] #[]]) (by kernel_rfl) (by kernel_rfl) (by decide) (by kernel_rfl) (fun d _ _ _ _ h => by cases d <;> first | exact h | exact h.later (drew_below _)) (by rw [← hU]; exact HU.out) ?_
  rw [← hU]
  clear hU
  iterate 3 ((apply wpOrd_take rfl rfl (by kernel_rfl); (intro V hV; go_simp; rfl)); (try simp only [List.setIfInBounds_toArray, List.set_cons_succ, List.set_cons_zero]))
  iterate 2 ((apply wpOrd_take rfl rfl (by kernel_rfl); (intro V hV; have r3 := hV.r 3 _ rfl; go_simp; rfl)); (try simp only [List.setIfInBounds_toArray, List.set_cons_succ, List.set_cons_zero]))
  iterate 2 ((apply wpOrd_take rfl rfl (by kernel_rfl); (intro V hV; go_simp; rfl)); (try simp only [List.setIfInBounds_toArray, List.set_cons_succ, List.set_cons_zero]))
  rw [← HTL.out]
  apply wpOrd_do rfl (by kernel_rfl)
  intro K hK
  go_simp
  refine (HRD.out g U HGU.out).mono ?_
  rintro e X ⟨rfl, hgr, hyes⟩
  have HX := Lib.hid (HU.out.gr hgr HGQ.out HGW.out)
  have HYES := Lib.hid hyes
  refine hK _ _ HX.out ?_
  clear hK K hgr hyes
  cases ro with
  | false =>
    have HRM := Lib.hid (show decM s = Ms.zero ∧ decME s = 4 from ⟨HDM.out, HDE.out⟩)
    iterate 3 ((apply wpOrd_take rfl rfl (by kernel_rfl); (intro V hV; go_simp; rfl)); (try simp only [List.setIfInBounds_toArray, List.set_cons_succ, List.set_cons_zero]))
    (apply wpOrd_undone2 rfl rfl (by kernel_rfl) HX.out); (try simp only [List.setIfInBounds_toArray, List.set_cons_succ, List.set_cons_zero])
    (apply wpOrd_undone2 rfl rfl (by kernel_rfl) HX.out); (try simp only [List.setIfInBounds_toArray, List.set_cons_succ, List.set_cons_zero])
    iterate 1 ((apply wpOrd_skip rfl rfl (by kernel_rfl)); (try simp only [List.setIfInBounds_toArray, List.set_cons_succ, List.set_cons_zero]))
    iterate 1 ((apply wpOrd_take rfl rfl (by kernel_rfl); (intro V hV; go_simp; rfl)); (try simp only [List.setIfInBounds_toArray, List.set_cons_succ, List.set_cons_zero]))
    refine wpOrd_nil ?_
    have HRC := Lib.hid (show X.heap[W.heap.size]? = some (.cells (Ms.zero.cs none 0) 38 (0, 0)) from HX.out.res)
    go_wp2_with ((with_reducible refine wpList_store_row rfl 38 (.tmp 2) (.tmp 53) rfl rfl W.heap.size rfl 38 (Ms.zero.cs none 0) #[.int .i64 0, .int .i64 0, .int .u32 0, .int .u32 0, .int .i64 0, .bool false, .slice none 0 0, .int .i64 0, .int .u32 0, .int .u32 0, .int .i64 0, .int .i64 0, .int .u32 0, .int .i64 0, .int .i64 0, .int .i64 0, .int .u32 0, .int .u64 0, .int .u64 0, .int .u64 0, .int .u64 0, .int .i64 0, .int .i64 0, .int .i64 0, .int .u32 0, .int .u32 0, .int .u8 0, .int .i64 0, .int .u32 0, .int .i64 0, .int .u32 0, .int .u32 0] rfl HRC.out info_zero HSS.out zero_one ?_))
    (try simp only [Exit.inBlock, Exit.then])
    refine bodyPost_ret (v := .tuple #[.agg (Ms.zero.cs none 0), .int .i64 4]) (results_cell rfl rfl rfl (box_setRow (n := Ms.zero) (sa := none) (sc := 0) (m := Ms.zero) HRC.out) Tryz.underlying38 rfl (info_msg Ms.zero none 0)) rfl ?_
    show DecM W (decM s) (decME s) _ _
    rw [HRM.out.1, HRM.out.2]
    exact ⟨none, 0, rfl, arow_nil _ _, below_setRow HX.out.bel (Nat.le_refl _)⟩

  | true =>
    obtain ⟨sa, sc, hbM, har⟩ := HYES.out rfl
    have HBM := Lib.hid hbM
    have HAR := Lib.hid har
    have HCH := Lib.hid (mcheck_any M sa sc X HGO.out har.adjs (by have := HGA.out; unfold maxLen; omega))
    clear hbM har
    iterate 3 ((apply wpOrd_take rfl rfl (by kernel_rfl); (intro V hV; go_simp; rfl)); (try simp only [List.setIfInBounds_toArray, List.set_cons_succ, List.set_cons_zero]))
    ((apply wpOrd_now rfl rfl (by kernel_rfl) (run_load_cs _ _ 38 (.tmp 6) rfl ⟨g, 0, none⟩ rfl (M.cs sa sc).toList _ (block_cells HBM.out) Tryz.underlying38 rfl (HSZ.out sa sc)) HX.out); (try simp only [List.setIfInBounds_toArray, List.set_cons_succ, List.set_cons_zero])); rw [Array.toArray_toList]
    apply wpOrd_do rfl (by kernel_rfl)
    intro K hK
    unfold Ms.ag at HCH
    go_simp
    refine HCH.out.mono ?_
    rintro e Z ⟨rfl, hb⟩
    have HZ := Lib.hid (HX.out.later hb)
    have HBZ := Lib.hid (HBM.out.later hb)
    have HAZ := Lib.hid (Row.later HAR.out hb)
    refine hK _ _ HZ.out ?_
    clear hK K hb
    cases hc : M.chk with
    | false =>
      have hme : M.err = 2 := by unfold Ms.err; rw [hc]; rfl
      have HRM := Lib.hid (show decM s = Ms.zero ∧ decME s = 4 from ⟨by rw [HDM.out, hc]; rfl, by rw [HDE.out, hc]; rfl⟩)
      rw [hme]
      clear hme hc
      iterate 2 ((apply wpOrd_take rfl rfl (by kernel_rfl); (intro V hV; go_simp; rfl)); (try simp only [List.setIfInBounds_toArray, List.set_cons_succ, List.set_cons_zero]))
      refine wpOrd_nil ?_
      have HRC := Lib.hid (show Z.heap[W.heap.size]? = some (.cells (Ms.zero.cs none 0) 38 (0, 0)) from HZ.out.res)
      go_wp2_with ((with_reducible refine wpList_store_row rfl 38 (.tmp 2) (.tmp 53) rfl rfl W.heap.size rfl 38 (Ms.zero.cs none 0) #[.int .i64 0, .int .i64 0, .int .u32 0, .int .u32 0, .int .i64 0, .bool false, .slice none 0 0, .int .i64 0, .int .u32 0, .int .u32 0, .int .i64 0, .int .i64 0, .int .u32 0, .int .i64 0, .int .i64 0, .int .i64 0, .int .u32 0, .int .u64 0, .int .u64 0, .int .u64 0, .int .u64 0, .int .i64 0, .int .i64 0, .int .i64 0, .int .u32 0, .int .u32 0, .int .u8 0, .int .i64 0, .int .u32 0, .int .i64 0, .int .u32 0, .int .u32 0] rfl HRC.out info_zero HSS.out zero_one ?_))
      (try simp only [Exit.inBlock, Exit.then])
      refine bodyPost_ret (v := .tuple #[.agg (Ms.zero.cs none 0), .int .i64 4]) (results_cell rfl rfl rfl (box_setRow (n := Ms.zero) (sa := none) (sc := 0) (m := Ms.zero) HRC.out) Tryz.underlying38 rfl (info_msg Ms.zero none 0)) rfl ?_
      show DecM W (decM s) (decME s) _ _
      rw [HRM.out.1, HRM.out.2]
      exact ⟨none, 0, rfl, arow_nil _ _, below_setRow HZ.out.bel (Nat.le_refl _)⟩

    | true =>
      have hme : M.err = 0 := by unfold Ms.err; rw [hc]; rfl
      have HRM := Lib.hid (show decM s = M ∧ decME s = 0 from ⟨by rw [HDM.out, hc]; rfl, by rw [HDE.out, hc]; rfl⟩)
      rw [hme]
      clear hme hc
      iterate 2 ((apply wpOrd_take rfl rfl (by kernel_rfl); (intro V hV; go_simp; rfl)); (try simp only [List.setIfInBounds_toArray, List.set_cons_succ, List.set_cons_zero]))
      refine wpOrd_nil ?_
      have HCC := Lib.hid (block_cells HBZ.out)
      have HRC := Lib.hid (show Z.heap[W.heap.size]? = some (.cells (Ms.zero.cs none 0) 38 (0, 0)) from HZ.out.res)
      have HS1 := Lib.hid (HSZ.out sa sc)
      have HS2 := Lib.hid (HSZ'.out sa sc)
      have HS3 := Lib.hid (HSM.out sa sc)
      have HS4 := Lib.hid (HONE.out sa sc)
      go_wp2_with (first | ((with_reducible refine wpList_load_cs rfl 38 (.tmp 6) rfl ⟨g, 0, none⟩ rfl (M.cs sa sc).toList _ HCC.out Tryz.underlying38 rfl HS1.out ?_); rw [Array.toArray_toList]) | (with_reducible refine wpList_store_row rfl 38 (.tmp 2) (.tmp 54) rfl rfl W.heap.size rfl 38 (Ms.zero.cs none 0) (M.cs sa sc) rfl HRC.out HS2.out HS3.out HS4.out ?_))
      (try simp only [Exit.inBlock, Exit.then])
      refine bodyPost_ret (v := .tuple #[.agg (M.cs sa sc), .int .i64 0]) (results_cell rfl rfl rfl (setRow_heap _ _ _ _ _ _ HRC.out) Tryz.underlying38 rfl (info_msg M sa sc)) rfl ?_
      show DecM W (decM s) (decME s) _ _
      rw [HRM.out.1, HRM.out.2]
      refine ⟨sa, sc, rfl, ?_, below_setRow HZ.out.bel (Nat.le_refl _)⟩
      have hlt := (Array.getElem?_eq_some_iff.1 HU.out.res).1
      refine (Row.more HAZ.out (Nat.le_of_lt hlt)).same fun k hk => ?_
      have := (Row.lt HAZ.out k hk).1
      exact setRow_other _ _ _ _ (by omega)
set_option maxHeartbeats 6400000 in
theorem mdec4 (s : ByteArray) (W : World) (h1 : 3 ≤ s.size) (h2 : s.size ≤ 512) (h3 : openE s = 0) (hk : kindOf (openS s).data.toList = 4) : Calls Tryz.prog 4 #[.string s] W (DecM W (decM s) (decME s)) := by
  obtain ⟨hsl, hsz⟩ := open_sealB h3
  obtain ⟨os, hos⟩ : ∃ o, o = openS s := ⟨_, rfl⟩
  rw [← hos] at hk hsz
  have ho1 : 1 ≤ os.size := by omega
  have ho2 : os.size ≤ 510 := by omega
  have ho3 : (1 : Int) ≤ (os.size : Int) := by omega
  have hx0 : (os[0].toNat : Int) = 4 := (kindOf_head (s := os) (by omega)).symm.trans hk
  obtain ⟨tl, htl⟩ : ∃ t, t = os.extract 1 os.size := ⟨_, rfl⟩
  have htl2 : tl.data.toList = os.data.toList.tail := by rw [htl]; exact tail_list os
  have hts : tl.size ≤ 1000 := by rw [htl, ByteArray.size_extract]; omega
  have hbo : bodyOk os.data.toList = (redOk 4 tl.data.toList && (Ms.got 4 tl.data.toList).chk) := by
    unfold bodyOk
    rw [hk, ← htl2]
    rfl
  have hde : decME s = if (redOk 4 tl.data.toList && (Ms.got 4 tl.data.toList).chk) = true then 0 else 4 := by
    unfold decME
    rw [if_neg (by omega), if_neg (by omega), if_pos h3, ← hos, hbo]
  have hdm : decM s = if decME s = 0 then Ms.got 4 tl.data.toList else Ms.zero := by
    unfold decM
    rw [← hos, hk, ← htl2]
  rw [hde] at hdm
  have hgo := got_ok 4 tl.data.toList (by unfold I64; omega)
  have hga := got_adjs 4 tl.data.toList
  obtain ⟨M, hM⟩ : ∃ M, M = Ms.got 4 tl.data.toList := ⟨_, rfl⟩
  obtain ⟨ro, hro⟩ : ∃ b, b = redOk 4 tl.data.toList := ⟨_, rfl⟩
  have er := enter_read4
  have HRD := Lib.hid (show ∀ (g : Nat) (U : World), BoxM g (Ms.m0 4) none 0 U → Calls Tryz.prog 64 #[.string tl, .pointer (some ⟨g, 0, none⟩)] U (fun e X => e = .returned (.bool ro) ∧ U.grownBy X (some g) ∧ (ro = true → ∃ sa sc, BoxM g M sa sc X ∧ ARow X U.heap.size sa sc M.rc.adjs)) from fun g U h => by
    rw [hM, hro]
    exact red4 tl g U hts h)
  rw [← hM, ← hro] at hde hdm
  rw [← hM] at hgo hga
  have hdl : decide (512 < (s.size : Int)) = false := decide_eq_false (by omega)
  have hdl2 : decide ((s.size : Int) < 3) = false := decide_eq_false (by omega)
  obtain ⟨W1, hW1⟩ : ∃ W1, W1 = W.alloc (.cells #[.int .i64 0, .int .i64 0, .int .u32 0, .int .u32 0, .int .i64 0, .bool false, .slice none 0 0, .int .i64 0, .int .u32 0, .int .u32 0, .int .i64 0, .int .i64 0, .int .u32 0, .int .i64 0, .int .i64 0, .int .i64 0, .int .u32 0, .int .u64 0, .int .u64 0, .int .u64 0, .int .u64 0, .int .i64 0, .int .i64 0, .int .i64 0, .int .u32 0, .int .u32 0, .int .u8 0, .int .i64 0, .int .u32 0, .int .i64 0, .int .u32 0, .int .u32 0] 38) := ⟨_, rfl⟩
  have hb1 : Below W.heap.size W W1 := by rw [hW1]; exact (Below.refl _ _).alloc (Nat.le_refl _) _
  have hbx : BoxM W.heap.size Ms.zero none 0 W1 := by rw [hW1]; exact heap_alloc_new _ _
  have HBX := Lib.hid hbx
  have HBC := Lib.hid (show W1.heap[W.heap.size]? = some (.cells (Ms.zero.cs none 0) 38 (0, 0)) from hbx)
  have HSS := Lib.hid (show (Ms.zero.cs none 0).size = (#[.int .i64 0, .int .i64 0, .int .u32 0, .int .u32 0, .int .i64 0, .bool false, .slice none 0 0, .int .i64 0, .int .u32 0, .int .u32 0, .int .i64 0, .int .i64 0, .int .u32 0, .int .i64 0, .int .i64 0, .int .i64 0, .int .u32 0, .int .u64 0, .int .u64 0, .int .u64 0, .int .u64 0, .int .i64 0, .int .i64 0, .int .i64 0, .int .u32 0, .int .u32 0, .int .u8 0, .int .i64 0, .int .u32 0, .int .i64 0, .int .u32 0, .int .u32 0] : Array Value).size from rfl)
  have HW1 := Lib.hid hW1
  have HB1 := Lib.hid hb1
  have HOF := Lib.hid (fun V => (of_any 4 V).mono fun e X h => show e = .returned (.tuple #[.agg #[.int .i64 24, .func (.func 59) #[] #[], .func (.func 62) #[] #[], .func (.func 64) #[] #[]], .bool true]) ∧ Below V.heap.size V X from h)
  have HOS := Lib.hid hos
  have HOE := Lib.hid h3
  have HOP := Lib.hid (open_any s W1 (by omega))
  have HIK := Lib.hid (show (Tryz.prog.info? 38).map (·.size) = some (#[.int .i64 4, .int .i64 0, .int .u32 0, .int .u32 0, .int .i64 0, .bool false, .slice none 0 0, .int .i64 0, .int .u32 0, .int .u32 0, .int .i64 0, .int .i64 0, .int .u32 0, .int .i64 0, .int .i64 0, .int .i64 0, .int .u32 0, .int .u64 0, .int .u64 0, .int .u64 0, .int .u64 0, .int .i64 0, .int .i64 0, .int .i64 0, .int .u32 0, .int .u32 0, .int .u8 0, .int .i64 0, .int .u32 0, .int .i64 0, .int .u32 0, .int .u32 0] : Array Value).size from info_msg' (Ms.m0 4) none 0)
  have HSK := Lib.hid (show (#[.int .i64 0, .int .i64 0, .int .u32 0, .int .u32 0, .int .i64 0, .bool false, .slice none 0 0, .int .i64 0, .int .u32 0, .int .u32 0, .int .i64 0, .int .i64 0, .int .u32 0, .int .i64 0, .int .i64 0, .int .i64 0, .int .u32 0, .int .u64 0, .int .u64 0, .int .u64 0, .int .u64 0, .int .i64 0, .int .i64 0, .int .i64 0, .int .u32 0, .int .u32 0, .int .u8 0, .int .i64 0, .int .u32 0, .int .i64 0, .int .u32 0, .int .u32 0] : Array Value).size = (#[.int .i64 4, .int .i64 0, .int .u32 0, .int .u32 0, .int .i64 0, .bool false, .slice none 0 0, .int .i64 0, .int .u32 0, .int .u32 0, .int .i64 0, .int .i64 0, .int .u32 0, .int .i64 0, .int .i64 0, .int .i64 0, .int .u32 0, .int .u64 0, .int .u64 0, .int .u64 0, .int .u64 0, .int .i64 0, .int .i64 0, .int .i64 0, .int .u32 0, .int .u32 0, .int .u8 0, .int .i64 0, .int .u32 0, .int .i64 0, .int .u32 0, .int .u32 0] : Array Value).size from rfl)
  have HOK := Lib.hid (show (#[.int .i64 4, .int .i64 0, .int .u32 0, .int .u32 0, .int .i64 0, .bool false, .slice none 0 0, .int .i64 0, .int .u32 0, .int .u32 0, .int .i64 0, .int .i64 0, .int .u32 0, .int .i64 0, .int .i64 0, .int .i64 0, .int .u32 0, .int .u64 0, .int .u64 0, .int .u64 0, .int .u64 0, .int .i64 0, .int .i64 0, .int .i64 0, .int .u32 0, .int .u32 0, .int .u8 0, .int .i64 0, .int .u32 0, .int .i64 0, .int .u32 0, .int .u32 0] : Array Value).all (·.oneCell') = true from cs_one (Ms.m0 4) none 0)
  have HGO := Lib.hid hgo
  have HGA := Lib.hid hga
  have HDE := Lib.hid hde
  have HDM := Lib.hid hdm
  have HSZ := Lib.hid (fun sa sc => info_msg M sa sc)
  have HSZ' := Lib.hid (fun sa sc => info_msg' M sa sc)
  have HONE := Lib.hid (fun sa sc => cs_one M sa sc)
  have HSM := Lib.hid (fun sa sc => show (Ms.zero.cs none 0).size = (M.cs sa sc).size from rfl)
  have HTL := Lib.hid htl
  have hos1 : 0 < os.size := by omega
  clear hW1 hb1 hbx hos h3 hk hbo hM hro hgo hga hde hdm htl htl2 hts hsl
  go_enter Tryz.func4, Tryz.ntmps4
  go_upto_region 1 with fail
  rw [← HW1.out]
  go_wp2_with fail
  refine HOP.out.mono ?_
  rintro e V ⟨rfl, hb⟩
  rw [← HOS.out, HOE.out]
  have HB2 := Lib.hid (HB1.out.trans (hb.mono HB1.out.size))
  have HZ2 := Lib.hid (HBX.out.later hb)
  have HAL := Lib.hid (show (V.alloc (.cells #[.int .i64 0, .int .i64 0, .int .u32 0, .int .u32 0, .int .i64 0, .bool false, .slice none 0 0, .int .i64 0, .int .u32 0, .int .u32 0, .int .i64 0, .int .i64 0, .int .u32 0, .int .i64 0, .int .i64 0, .int .i64 0, .int .u32 0, .int .u64 0, .int .u64 0, .int .u64 0, .int .u64 0, .int .i64 0, .int .i64 0, .int .i64 0, .int .u32 0, .int .u32 0, .int .u8 0, .int .i64 0, .int .u32 0, .int .i64 0, .int .u32 0, .int .u32 0] 38)).heap[V.heap.size]? = some (.cells #[.int .i64 0, .int .i64 0, .int .u32 0, .int .u32 0, .int .i64 0, .bool false, .slice none 0 0, .int .i64 0, .int .u32 0, .int .u32 0, .int .i64 0, .int .i64 0, .int .u32 0, .int .i64 0, .int .i64 0, .int .i64 0, .int .u32 0, .int .u64 0, .int .u64 0, .int .u64 0, .int .u64 0, .int .i64 0, .int .i64 0, .int .i64 0, .int .u32 0, .int .u32 0, .int .u8 0, .int .i64 0, .int .u32 0, .int .i64 0, .int .u32 0, .int .u32 0] 38 (0, 0)) from heap_alloc_new _ _)
  clear hb
  go_upto_region 9 with ((with_reducible refine wpList_store_row rfl 38 (.tmp 6) (.tmp 31) rfl rfl V.heap.size rfl 38 #[.int .i64 0, .int .i64 0, .int .u32 0, .int .u32 0, .int .i64 0, .bool false, .slice none 0 0, .int .i64 0, .int .u32 0, .int .u32 0, .int .i64 0, .int .i64 0, .int .u32 0, .int .i64 0, .int .i64 0, .int .i64 0, .int .u32 0, .int .u64 0, .int .u64 0, .int .u64 0, .int .u64 0, .int .i64 0, .int .i64 0, .int .i64 0, .int .u32 0, .int .u32 0, .int .u8 0, .int .i64 0, .int .u32 0, .int .i64 0, .int .u32 0, .int .u32 0] #[.int .i64 4, .int .i64 0, .int .u32 0, .int .u32 0, .int .i64 0, .bool false, .slice none 0 0, .int .i64 0, .int .u32 0, .int .u32 0, .int .i64 0, .int .i64 0, .int .u32 0, .int .i64 0, .int .i64 0, .int .i64 0, .int .u32 0, .int .u64 0, .int .u64 0, .int .u64 0, .int .u64 0, .int .i64 0, .int .i64 0, .int .i64 0, .int .u32 0, .int .u32 0, .int .u8 0, .int .i64 0, .int .u32 0, .int .i64 0, .int .u32 0, .int .u32 0] rfl HAL.out HIK.out HSK.out HOK.out ?_))
  obtain ⟨g, hg⟩ : ∃ g, g = V.heap.size := ⟨_, rfl⟩
  obtain ⟨Y, hY⟩ : ∃ Y, Y = (V.alloc (.cells #[.int .i64 0, .int .i64 0, .int .u32 0, .int .u32 0, .int .i64 0, .bool false, .slice none 0 0, .int .i64 0, .int .u32 0, .int .u32 0, .int .i64 0, .int .i64 0, .int .u32 0, .int .i64 0, .int .i64 0, .int .i64 0, .int .u32 0, .int .u64 0, .int .u64 0, .int .u64 0, .int .u64 0, .int .i64 0, .int .i64 0, .int .i64 0, .int .u32 0, .int .u32 0, .int .u8 0, .int .i64 0, .int .u32 0, .int .i64 0, .int .u32 0, .int .u32 0] 38)).setRow V.heap.size #[.int .i64 4, .int .i64 0, .int .u32 0, .int .u32 0, .int .i64 0, .bool false, .slice none 0 0, .int .i64 0, .int .u32 0, .int .u32 0, .int .i64 0, .int .i64 0, .int .u32 0, .int .i64 0, .int .i64 0, .int .i64 0, .int .u32 0, .int .u64 0, .int .u64 0, .int .u64 0, .int .u64 0, .int .i64 0, .int .i64 0, .int .i64 0, .int .u32 0, .int .u32 0, .int .u8 0, .int .i64 0, .int .u32 0, .int .i64 0, .int .u32 0, .int .u32 0] := ⟨_, rfl⟩
  have hgY : BoxM g (Ms.m0 4) none 0 Y := by rw [hY, hg]; exact setRow_heap _ _ _ _ _ _ HAL.out
  have hbY : Below V.heap.size V Y := by rw [hY]; exact below_setRow ((Below.refl _ _).alloc (Nat.le_refl _) _) (Nat.le_refl _)
  have HGY := Lib.hid hgY
  have HBY := Lib.hid (HB2.out.trans (hbY.mono HB2.out.size))
  have HZY := Lib.hid (HZ2.out.later hbY)
  have HGW := Lib.hid (show W.heap.size < g by rw [hg]; exact (Array.getElem?_eq_some_iff.1 HZ2.out).1)
  have x0 : Y.cell? ⟨g, 0, none⟩ = some (.int .i64 4) := hgY.cell rfl
  rw [← hY, ← hg]
  clear hY hg hgY hbY
  go_wp2_with fail
  refine (HOF.out Y).mono ?_
  rintro e V0 ⟨rfl, hb⟩
  obtain ⟨W2, hW2⟩ : ∃ W2, W2 = V0.alloc (.cells #[.int .i64 24, .func (.func 59) #[] #[], .func (.func 62) #[] #[], .func (.func 64) #[] #[]] 54) := ⟨_, rfl⟩
  obtain ⟨q, hq⟩ : ∃ q, q = V0.heap.size := ⟨_, rfl⟩
  have hb2 : Below Y.heap.size Y W2 := by rw [hW2]; exact hb.alloc hb.size _
  have HDS := Lib.hid (show DcS W q #[.int .i64 24, .func (.func 59) #[] #[], .func (.func 62) #[] #[], .func (.func 64) #[] #[]] W2 from ⟨HBY.out.trans (hb2.mono HBY.out.size), HZY.out.later hb2, by rw [hW2, hq]; exact heap_alloc_new _ _⟩)
  have HG2 := Lib.hid (show BoxM g (Ms.m0 4) none 0 W2 from HGY.out.later hb2)
  have HGQ := Lib.hid (show g ≠ q by
    have h1 := (Array.getElem?_eq_some_iff.1 HGY.out).1
    have h2 := hb.size
    omega)
  have HW2 := Lib.hid hW2
  have HQ := Lib.hid hq
  clear hb hb2 hW2 hq HOF x0
  go_wp2_with fail
  rw [← HQ.out, ← HW2.out]
  obtain ⟨U, hU⟩ : ∃ U, U = W2.drew := ⟨_, rfl⟩
  have HU := Lib.hid (show DcS W q #[.int .i64 24, .func (.func 59) #[] #[], .func (.func 62) #[] #[], .func (.func 64) #[] #[]] U by rw [hU]; exact HDS.out.later (drew_below _))
  have HGU := Lib.hid (show BoxM g (Ms.m0 4) none 0 U by rw [hU]; exact HG2.out)
  refine wp_region_ord [(0, true), (1, true), (2, true), (3, true), (4, true), (5, true), (6, true), (7, false), (8, true), (9, true), (10, true), (11, false), (12, false), (13, true), (14, true)] (DcS W q #[.int .i64 24, .func (.func 59) #[] #[], .func (.func 62) #[] #[], .func (.func 64) #[] #[]]) (by kernel_rfl) (by kernel_rfl) (by decide) (by kernel_rfl) (fun d _ _ _ _ h => by cases d <;> first | exact h | exact h.later (drew_below _)) (by rw [← hU]; exact HU.out) ?_
  rw [← hU]
  clear hU
  iterate 3 ((apply wpOrd_take rfl rfl (by kernel_rfl); (intro V hV; go_simp; rfl)); (try simp only [List.setIfInBounds_toArray, List.set_cons_succ, List.set_cons_zero]))
  iterate 2 ((apply wpOrd_take rfl rfl (by kernel_rfl); (intro V hV; have r3 := hV.r 3 _ rfl; go_simp; rfl)); (try simp only [List.setIfInBounds_toArray, List.set_cons_succ, List.set_cons_zero]))
  iterate 2 ((apply wpOrd_take rfl rfl (by kernel_rfl); (intro V hV; go_simp; rfl)); (try simp only [List.setIfInBounds_toArray, List.set_cons_succ, List.set_cons_zero]))
  rw [← HTL.out]
  apply wpOrd_do rfl (by kernel_rfl)
  intro K hK
  go_simp
  refine (HRD.out g U HGU.out).mono ?_
  rintro e X ⟨rfl, hgr, hyes⟩
  have HX := Lib.hid (HU.out.gr hgr HGQ.out HGW.out)
  have HYES := Lib.hid hyes
  refine hK _ _ HX.out ?_
  clear hK K hgr hyes
  cases ro with
  | false =>
    have HRM := Lib.hid (show decM s = Ms.zero ∧ decME s = 4 from ⟨HDM.out, HDE.out⟩)
    iterate 3 ((apply wpOrd_take rfl rfl (by kernel_rfl); (intro V hV; go_simp; rfl)); (try simp only [List.setIfInBounds_toArray, List.set_cons_succ, List.set_cons_zero]))
    (apply wpOrd_undone2 rfl rfl (by kernel_rfl) HX.out); (try simp only [List.setIfInBounds_toArray, List.set_cons_succ, List.set_cons_zero])
    (apply wpOrd_undone2 rfl rfl (by kernel_rfl) HX.out); (try simp only [List.setIfInBounds_toArray, List.set_cons_succ, List.set_cons_zero])
    iterate 1 ((apply wpOrd_skip rfl rfl (by kernel_rfl)); (try simp only [List.setIfInBounds_toArray, List.set_cons_succ, List.set_cons_zero]))
    iterate 1 ((apply wpOrd_take rfl rfl (by kernel_rfl); (intro V hV; go_simp; rfl)); (try simp only [List.setIfInBounds_toArray, List.set_cons_succ, List.set_cons_zero]))
    refine wpOrd_nil ?_
    have HRC := Lib.hid (show X.heap[W.heap.size]? = some (.cells (Ms.zero.cs none 0) 38 (0, 0)) from HX.out.res)
    go_wp2_with ((with_reducible refine wpList_store_row rfl 38 (.tmp 2) (.tmp 53) rfl rfl W.heap.size rfl 38 (Ms.zero.cs none 0) #[.int .i64 0, .int .i64 0, .int .u32 0, .int .u32 0, .int .i64 0, .bool false, .slice none 0 0, .int .i64 0, .int .u32 0, .int .u32 0, .int .i64 0, .int .i64 0, .int .u32 0, .int .i64 0, .int .i64 0, .int .i64 0, .int .u32 0, .int .u64 0, .int .u64 0, .int .u64 0, .int .u64 0, .int .i64 0, .int .i64 0, .int .i64 0, .int .u32 0, .int .u32 0, .int .u8 0, .int .i64 0, .int .u32 0, .int .i64 0, .int .u32 0, .int .u32 0] rfl HRC.out info_zero HSS.out zero_one ?_))
    (try simp only [Exit.inBlock, Exit.then])
    refine bodyPost_ret (v := .tuple #[.agg (Ms.zero.cs none 0), .int .i64 4]) (results_cell rfl rfl rfl (box_setRow (n := Ms.zero) (sa := none) (sc := 0) (m := Ms.zero) HRC.out) Tryz.underlying38 rfl (info_msg Ms.zero none 0)) rfl ?_
    show DecM W (decM s) (decME s) _ _
    rw [HRM.out.1, HRM.out.2]
    exact ⟨none, 0, rfl, arow_nil _ _, below_setRow HX.out.bel (Nat.le_refl _)⟩

  | true =>
    obtain ⟨sa, sc, hbM, har⟩ := HYES.out rfl
    have HBM := Lib.hid hbM
    have HAR := Lib.hid har
    have HCH := Lib.hid (mcheck_any M sa sc X HGO.out har.adjs (by have := HGA.out; unfold maxLen; omega))
    clear hbM har
    iterate 3 ((apply wpOrd_take rfl rfl (by kernel_rfl); (intro V hV; go_simp; rfl)); (try simp only [List.setIfInBounds_toArray, List.set_cons_succ, List.set_cons_zero]))
    ((apply wpOrd_now rfl rfl (by kernel_rfl) (run_load_cs _ _ 38 (.tmp 6) rfl ⟨g, 0, none⟩ rfl (M.cs sa sc).toList _ (block_cells HBM.out) Tryz.underlying38 rfl (HSZ.out sa sc)) HX.out); (try simp only [List.setIfInBounds_toArray, List.set_cons_succ, List.set_cons_zero])); rw [Array.toArray_toList]
    apply wpOrd_do rfl (by kernel_rfl)
    intro K hK
    unfold Ms.ag at HCH
    go_simp
    refine HCH.out.mono ?_
    rintro e Z ⟨rfl, hb⟩
    have HZ := Lib.hid (HX.out.later hb)
    have HBZ := Lib.hid (HBM.out.later hb)
    have HAZ := Lib.hid (Row.later HAR.out hb)
    refine hK _ _ HZ.out ?_
    clear hK K hb
    cases hc : M.chk with
    | false =>
      have hme : M.err = 2 := by unfold Ms.err; rw [hc]; rfl
      have HRM := Lib.hid (show decM s = Ms.zero ∧ decME s = 4 from ⟨by rw [HDM.out, hc]; rfl, by rw [HDE.out, hc]; rfl⟩)
      rw [hme]
      clear hme hc
      iterate 2 ((apply wpOrd_take rfl rfl (by kernel_rfl); (intro V hV; go_simp; rfl)); (try simp only [List.setIfInBounds_toArray, List.set_cons_succ, List.set_cons_zero]))
      refine wpOrd_nil ?_
      have HRC := Lib.hid (show Z.heap[W.heap.size]? = some (.cells (Ms.zero.cs none 0) 38 (0, 0)) from HZ.out.res)
      go_wp2_with ((with_reducible refine wpList_store_row rfl 38 (.tmp 2) (.tmp 53) rfl rfl W.heap.size rfl 38 (Ms.zero.cs none 0) #[.int .i64 0, .int .i64 0, .int .u32 0, .int .u32 0, .int .i64 0, .bool false, .slice none 0 0, .int .i64 0, .int .u32 0, .int .u32 0, .int .i64 0, .int .i64 0, .int .u32 0, .int .i64 0, .int .i64 0, .int .i64 0, .int .u32 0, .int .u64 0, .int .u64 0, .int .u64 0, .int .u64 0, .int .i64 0, .int .i64 0, .int .i64 0, .int .u32 0, .int .u32 0, .int .u8 0, .int .i64 0, .int .u32 0, .int .i64 0, .int .u32 0, .int .u32 0] rfl HRC.out info_zero HSS.out zero_one ?_))
      (try simp only [Exit.inBlock, Exit.then])
      refine bodyPost_ret (v := .tuple #[.agg (Ms.zero.cs none 0), .int .i64 4]) (results_cell rfl rfl rfl (box_setRow (n := Ms.zero) (sa := none) (sc := 0) (m := Ms.zero) HRC.out) Tryz.underlying38 rfl (info_msg Ms.zero none 0)) rfl ?_
      show DecM W (decM s) (decME s) _ _
      rw [HRM.out.1, HRM.out.2]
      exact ⟨none, 0, rfl, arow_nil _ _, below_setRow HZ.out.bel (Nat.le_refl _)⟩

    | true =>
      have hme : M.err = 0 := by unfold Ms.err; rw [hc]; rfl
      have HRM := Lib.hid (show decM s = M ∧ decME s = 0 from ⟨by rw [HDM.out, hc]; rfl, by rw [HDE.out, hc]; rfl⟩)
      rw [hme]
      clear hme hc
      iterate 2 ((apply wpOrd_take rfl rfl (by kernel_rfl); (intro V hV; go_simp; rfl)); (try simp only [List.setIfInBounds_toArray, List.set_cons_succ, List.set_cons_zero]))
      refine wpOrd_nil ?_
      have HCC := Lib.hid (block_cells HBZ.out)
      have HRC := Lib.hid (show Z.heap[W.heap.size]? = some (.cells (Ms.zero.cs none 0) 38 (0, 0)) from HZ.out.res)
      have HS1 := Lib.hid (HSZ.out sa sc)
      have HS2 := Lib.hid (HSZ'.out sa sc)
      have HS3 := Lib.hid (HSM.out sa sc)
      have HS4 := Lib.hid (HONE.out sa sc)
      go_wp2_with (first | ((with_reducible refine wpList_load_cs rfl 38 (.tmp 6) rfl ⟨g, 0, none⟩ rfl (M.cs sa sc).toList _ HCC.out Tryz.underlying38 rfl HS1.out ?_); rw [Array.toArray_toList]) | (with_reducible refine wpList_store_row rfl 38 (.tmp 2) (.tmp 54) rfl rfl W.heap.size rfl 38 (Ms.zero.cs none 0) (M.cs sa sc) rfl HRC.out HS2.out HS3.out HS4.out ?_))
      (try simp only [Exit.inBlock, Exit.then])
      refine bodyPost_ret (v := .tuple #[.agg (M.cs sa sc), .int .i64 0]) (results_cell rfl rfl rfl (setRow_heap _ _ _ _ _ _ HRC.out) Tryz.underlying38 rfl (info_msg M sa sc)) rfl ?_
      show DecM W (decM s) (decME s) _ _
      rw [HRM.out.1, HRM.out.2]
      refine ⟨sa, sc, rfl, ?_, below_setRow HZ.out.bel (Nat.le_refl _)⟩
      have hlt := (Array.getElem?_eq_some_iff.1 HU.out.res).1
      refine (Row.more HAZ.out (Nat.le_of_lt hlt)).same fun k hk => ?_
      have := (Row.lt HAZ.out k hk).1
      exact setRow_other _ _ _ _ (by omega)
set_option maxHeartbeats 6400000 in
theorem mdec5 (s : ByteArray) (W : World) (h1 : 3 ≤ s.size) (h2 : s.size ≤ 512) (h3 : openE s = 0) (hk : kindOf (openS s).data.toList = 5) : Calls Tryz.prog 4 #[.string s] W (DecM W (decM s) (decME s)) := by
  obtain ⟨hsl, hsz⟩ := open_sealB h3
  obtain ⟨os, hos⟩ : ∃ o, o = openS s := ⟨_, rfl⟩
  rw [← hos] at hk hsz
  have ho1 : 1 ≤ os.size := by omega
  have ho2 : os.size ≤ 510 := by omega
  have ho3 : (1 : Int) ≤ (os.size : Int) := by omega
  have hx0 : (os[0].toNat : Int) = 5 := (kindOf_head (s := os) (by omega)).symm.trans hk
  obtain ⟨tl, htl⟩ : ∃ t, t = os.extract 1 os.size := ⟨_, rfl⟩
  have htl2 : tl.data.toList = os.data.toList.tail := by rw [htl]; exact tail_list os
  have hts : tl.size ≤ 1000 := by rw [htl, ByteArray.size_extract]; omega
  have hbo : bodyOk os.data.toList = (redOk 5 tl.data.toList && (Ms.got 5 tl.data.toList).chk) := by
    unfold bodyOk
    rw [hk, ← htl2]
    rfl
  have hde : decME s = if (redOk 5 tl.data.toList && (Ms.got 5 tl.data.toList).chk) = true then 0 else 4 := by
    unfold decME
    rw [if_neg (by omega), if_neg (by omega), if_pos h3, ← hos, hbo]
  have hdm : decM s = if decME s = 0 then Ms.got 5 tl.data.toList else Ms.zero := by
    unfold decM
    rw [← hos, hk, ← htl2]
  rw [hde] at hdm
  have hgo := got_ok 5 tl.data.toList (by unfold I64; omega)
  have hga := got_adjs 5 tl.data.toList
  obtain ⟨M, hM⟩ : ∃ M, M = Ms.got 5 tl.data.toList := ⟨_, rfl⟩
  obtain ⟨ro, hro⟩ : ∃ b, b = redOk 5 tl.data.toList := ⟨_, rfl⟩
  have er := enter_read5
  have HRD := Lib.hid (show ∀ (g : Nat) (U : World), BoxM g (Ms.m0 5) none 0 U → Calls Tryz.prog 68 #[.string tl, .pointer (some ⟨g, 0, none⟩)] U (fun e X => e = .returned (.bool ro) ∧ U.grownBy X (some g) ∧ (ro = true → ∃ sa sc, BoxM g M sa sc X ∧ ARow X U.heap.size sa sc M.rc.adjs)) from fun g U h => by
    rw [hM, hro]
    exact red5 tl g U hts h)
  rw [← hM, ← hro] at hde hdm
  rw [← hM] at hgo hga
  have hdl : decide (512 < (s.size : Int)) = false := decide_eq_false (by omega)
  have hdl2 : decide ((s.size : Int) < 3) = false := decide_eq_false (by omega)
  obtain ⟨W1, hW1⟩ : ∃ W1, W1 = W.alloc (.cells #[.int .i64 0, .int .i64 0, .int .u32 0, .int .u32 0, .int .i64 0, .bool false, .slice none 0 0, .int .i64 0, .int .u32 0, .int .u32 0, .int .i64 0, .int .i64 0, .int .u32 0, .int .i64 0, .int .i64 0, .int .i64 0, .int .u32 0, .int .u64 0, .int .u64 0, .int .u64 0, .int .u64 0, .int .i64 0, .int .i64 0, .int .i64 0, .int .u32 0, .int .u32 0, .int .u8 0, .int .i64 0, .int .u32 0, .int .i64 0, .int .u32 0, .int .u32 0] 38) := ⟨_, rfl⟩
  have hb1 : Below W.heap.size W W1 := by rw [hW1]; exact (Below.refl _ _).alloc (Nat.le_refl _) _
  have hbx : BoxM W.heap.size Ms.zero none 0 W1 := by rw [hW1]; exact heap_alloc_new _ _
  have HBX := Lib.hid hbx
  have HBC := Lib.hid (show W1.heap[W.heap.size]? = some (.cells (Ms.zero.cs none 0) 38 (0, 0)) from hbx)
  have HSS := Lib.hid (show (Ms.zero.cs none 0).size = (#[.int .i64 0, .int .i64 0, .int .u32 0, .int .u32 0, .int .i64 0, .bool false, .slice none 0 0, .int .i64 0, .int .u32 0, .int .u32 0, .int .i64 0, .int .i64 0, .int .u32 0, .int .i64 0, .int .i64 0, .int .i64 0, .int .u32 0, .int .u64 0, .int .u64 0, .int .u64 0, .int .u64 0, .int .i64 0, .int .i64 0, .int .i64 0, .int .u32 0, .int .u32 0, .int .u8 0, .int .i64 0, .int .u32 0, .int .i64 0, .int .u32 0, .int .u32 0] : Array Value).size from rfl)
  have HW1 := Lib.hid hW1
  have HB1 := Lib.hid hb1
  have HOF := Lib.hid (fun V => (of_any 5 V).mono fun e X h => show e = .returned (.tuple #[.agg #[.int .i64 40, .func (.func 66) #[] #[], .func (.func 67) #[] #[], .func (.func 68) #[] #[]], .bool true]) ∧ Below V.heap.size V X from h)
  have HOS := Lib.hid hos
  have HOE := Lib.hid h3
  have HOP := Lib.hid (open_any s W1 (by omega))
  have HIK := Lib.hid (show (Tryz.prog.info? 38).map (·.size) = some (#[.int .i64 5, .int .i64 0, .int .u32 0, .int .u32 0, .int .i64 0, .bool false, .slice none 0 0, .int .i64 0, .int .u32 0, .int .u32 0, .int .i64 0, .int .i64 0, .int .u32 0, .int .i64 0, .int .i64 0, .int .i64 0, .int .u32 0, .int .u64 0, .int .u64 0, .int .u64 0, .int .u64 0, .int .i64 0, .int .i64 0, .int .i64 0, .int .u32 0, .int .u32 0, .int .u8 0, .int .i64 0, .int .u32 0, .int .i64 0, .int .u32 0, .int .u32 0] : Array Value).size from info_msg' (Ms.m0 5) none 0)
  have HSK := Lib.hid (show (#[.int .i64 0, .int .i64 0, .int .u32 0, .int .u32 0, .int .i64 0, .bool false, .slice none 0 0, .int .i64 0, .int .u32 0, .int .u32 0, .int .i64 0, .int .i64 0, .int .u32 0, .int .i64 0, .int .i64 0, .int .i64 0, .int .u32 0, .int .u64 0, .int .u64 0, .int .u64 0, .int .u64 0, .int .i64 0, .int .i64 0, .int .i64 0, .int .u32 0, .int .u32 0, .int .u8 0, .int .i64 0, .int .u32 0, .int .i64 0, .int .u32 0, .int .u32 0] : Array Value).size = (#[.int .i64 5, .int .i64 0, .int .u32 0, .int .u32 0, .int .i64 0, .bool false, .slice none 0 0, .int .i64 0, .int .u32 0, .int .u32 0, .int .i64 0, .int .i64 0, .int .u32 0, .int .i64 0, .int .i64 0, .int .i64 0, .int .u32 0, .int .u64 0, .int .u64 0, .int .u64 0, .int .u64 0, .int .i64 0, .int .i64 0, .int .i64 0, .int .u32 0, .int .u32 0, .int .u8 0, .int .i64 0, .int .u32 0, .int .i64 0, .int .u32 0, .int .u32 0] : Array Value).size from rfl)
  have HOK := Lib.hid (show (#[.int .i64 5, .int .i64 0, .int .u32 0, .int .u32 0, .int .i64 0, .bool false, .slice none 0 0, .int .i64 0, .int .u32 0, .int .u32 0, .int .i64 0, .int .i64 0, .int .u32 0, .int .i64 0, .int .i64 0, .int .i64 0, .int .u32 0, .int .u64 0, .int .u64 0, .int .u64 0, .int .u64 0, .int .i64 0, .int .i64 0, .int .i64 0, .int .u32 0, .int .u32 0, .int .u8 0, .int .i64 0, .int .u32 0, .int .i64 0, .int .u32 0, .int .u32 0] : Array Value).all (·.oneCell') = true from cs_one (Ms.m0 5) none 0)
  have HGO := Lib.hid hgo
  have HGA := Lib.hid hga
  have HDE := Lib.hid hde
  have HDM := Lib.hid hdm
  have HSZ := Lib.hid (fun sa sc => info_msg M sa sc)
  have HSZ' := Lib.hid (fun sa sc => info_msg' M sa sc)
  have HONE := Lib.hid (fun sa sc => cs_one M sa sc)
  have HSM := Lib.hid (fun sa sc => show (Ms.zero.cs none 0).size = (M.cs sa sc).size from rfl)
  have HTL := Lib.hid htl
  have hos1 : 0 < os.size := by omega
  clear hW1 hb1 hbx hos h3 hk hbo hM hro hgo hga hde hdm htl htl2 hts hsl
  go_enter Tryz.func4, Tryz.ntmps4
  go_upto_region 1 with fail
  rw [← HW1.out]
  go_wp2_with fail
  refine HOP.out.mono ?_
  rintro e V ⟨rfl, hb⟩
  rw [← HOS.out, HOE.out]
  have HB2 := Lib.hid (HB1.out.trans (hb.mono HB1.out.size))
  have HZ2 := Lib.hid (HBX.out.later hb)
  have HAL := Lib.hid (show (V.alloc (.cells #[.int .i64 0, .int .i64 0, .int .u32 0, .int .u32 0, .int .i64 0, .bool false, .slice none 0 0, .int .i64 0, .int .u32 0, .int .u32 0, .int .i64 0, .int .i64 0, .int .u32 0, .int .i64 0, .int .i64 0, .int .i64 0, .int .u32 0, .int .u64 0, .int .u64 0, .int .u64 0, .int .u64 0, .int .i64 0, .int .i64 0, .int .i64 0, .int .u32 0, .int .u32 0, .int .u8 0, .int .i64 0, .int .u32 0, .int .i64 0, .int .u32 0, .int .u32 0] 38)).heap[V.heap.size]? = some (.cells #[.int .i64 0, .int .i64 0, .int .u32 0, .int .u32 0, .int .i64 0, .bool false, .slice none 0 0, .int .i64 0, .int .u32 0, .int .u32 0, .int .i64 0, .int .i64 0, .int .u32 0, .int .i64 0, .int .i64 0, .int .i64 0, .int .u32 0, .int .u64 0, .int .u64 0, .int .u64 0, .int .u64 0, .int .i64 0, .int .i64 0, .int .i64 0, .int .u32 0, .int .u32 0, .int .u8 0, .int .i64 0, .int .u32 0, .int .i64 0, .int .u32 0, .int .u32 0] 38 (0, 0)) from heap_alloc_new _ _)
  clear hb
  go_upto_region 9 with ((with_reducible refine wpList_store_row rfl 38 (.tmp 6) (.tmp 31) rfl rfl V.heap.size rfl 38 #[.int .i64 0, .int .i64 0, .int .u32 0, .int .u32 0, .int .i64 0, .bool false, .slice none 0 0, .int .i64 0, .int .u32 0, .int .u32 0, .int .i64 0, .int .i64 0, .int .u32 0, .int .i64 0, .int .i64 0, .int .i64 0, .int .u32 0, .int .u64 0, .int .u64 0, .int .u64 0, .int .u64 0, .int .i64 0, .int .i64 0, .int .i64 0, .int .u32 0, .int .u32 0, .int .u8 0, .int .i64 0, .int .u32 0, .int .i64 0, .int .u32 0, .int .u32 0] #[.int .i64 5, .int .i64 0, .int .u32 0, .int .u32 0, .int .i64 0, .bool false, .slice none 0 0, .int .i64 0, .int .u32 0, .int .u32 0, .int .i64 0, .int .i64 0, .int .u32 0, .int .i64 0, .int .i64 0, .int .i64 0, .int .u32 0, .int .u64 0, .int .u64 0, .int .u64 0, .int .u64 0, .int .i64 0, .int .i64 0, .int .i64 0, .int .u32 0, .int .u32 0, .int .u8 0, .int .i64 0, .int .u32 0, .int .i64 0, .int .u32 0, .int .u32 0] rfl HAL.out HIK.out HSK.out HOK.out ?_))
  obtain ⟨g, hg⟩ : ∃ g, g = V.heap.size := ⟨_, rfl⟩
  obtain ⟨Y, hY⟩ : ∃ Y, Y = (V.alloc (.cells #[.int .i64 0, .int .i64 0, .int .u32 0, .int .u32 0, .int .i64 0, .bool false, .slice none 0 0, .int .i64 0, .int .u32 0, .int .u32 0, .int .i64 0, .int .i64 0, .int .u32 0, .int .i64 0, .int .i64 0, .int .i64 0, .int .u32 0, .int .u64 0, .int .u64 0, .int .u64 0, .int .u64 0, .int .i64 0, .int .i64 0, .int .i64 0, .int .u32 0, .int .u32 0, .int .u8 0, .int .i64 0, .int .u32 0, .int .i64 0, .int .u32 0, .int .u32 0] 38)).setRow V.heap.size #[.int .i64 5, .int .i64 0, .int .u32 0, .int .u32 0, .int .i64 0, .bool false, .slice none 0 0, .int .i64 0, .int .u32 0, .int .u32 0, .int .i64 0, .int .i64 0, .int .u32 0, .int .i64 0, .int .i64 0, .int .i64 0, .int .u32 0, .int .u64 0, .int .u64 0, .int .u64 0, .int .u64 0, .int .i64 0, .int .i64 0, .int .i64 0, .int .u32 0, .int .u32 0, .int .u8 0, .int .i64 0, .int .u32 0, .int .i64 0, .int .u32 0, .int .u32 0] := ⟨_, rfl⟩
  have hgY : BoxM g (Ms.m0 5) none 0 Y := by rw [hY, hg]; exact setRow_heap _ _ _ _ _ _ HAL.out
  have hbY : Below V.heap.size V Y := by rw [hY]; exact below_setRow ((Below.refl _ _).alloc (Nat.le_refl _) _) (Nat.le_refl _)
  have HGY := Lib.hid hgY
  have HBY := Lib.hid (HB2.out.trans (hbY.mono HB2.out.size))
  have HZY := Lib.hid (HZ2.out.later hbY)
  have HGW := Lib.hid (show W.heap.size < g by rw [hg]; exact (Array.getElem?_eq_some_iff.1 HZ2.out).1)
  have x0 : Y.cell? ⟨g, 0, none⟩ = some (.int .i64 5) := hgY.cell rfl
  rw [← hY, ← hg]
  clear hY hg hgY hbY
  go_wp2_with fail
  refine (HOF.out Y).mono ?_
  rintro e V0 ⟨rfl, hb⟩
  obtain ⟨W2, hW2⟩ : ∃ W2, W2 = V0.alloc (.cells #[.int .i64 40, .func (.func 66) #[] #[], .func (.func 67) #[] #[], .func (.func 68) #[] #[]] 54) := ⟨_, rfl⟩
  obtain ⟨q, hq⟩ : ∃ q, q = V0.heap.size := ⟨_, rfl⟩
  have hb2 : Below Y.heap.size Y W2 := by rw [hW2]; exact hb.alloc hb.size _
  have HDS := Lib.hid (show DcS W q #[.int .i64 40, .func (.func 66) #[] #[], .func (.func 67) #[] #[], .func (.func 68) #[] #[]] W2 from ⟨HBY.out.trans (hb2.mono HBY.out.size), HZY.out.later hb2, by rw [hW2, hq]; exact heap_alloc_new _ _⟩)
  have HG2 := Lib.hid (show BoxM g (Ms.m0 5) none 0 W2 from HGY.out.later hb2)
  have HGQ := Lib.hid (show g ≠ q by
    have h1 := (Array.getElem?_eq_some_iff.1 HGY.out).1
    have h2 := hb.size
    omega)
  have HW2 := Lib.hid hW2
  have HQ := Lib.hid hq
  clear hb hb2 hW2 hq HOF x0
  go_wp2_with fail
  rw [← HQ.out, ← HW2.out]
  obtain ⟨U, hU⟩ : ∃ U, U = W2.drew := ⟨_, rfl⟩
  have HU := Lib.hid (show DcS W q #[.int .i64 40, .func (.func 66) #[] #[], .func (.func 67) #[] #[], .func (.func 68) #[] #[]] U by rw [hU]; exact HDS.out.later (drew_below _))
  have HGU := Lib.hid (show BoxM g (Ms.m0 5) none 0 U by rw [hU]; exact HG2.out)
  refine wp_region_ord [(0, true), (1, true), (2, true), (3, true), (4, true), (5, true), (6, true), (7, false), (8, true), (9, true), (10, true), (11, false), (12, false), (13, true), (14, true)] (DcS W q #[.int .i64 40, .func (.func 66) #[] #[], .func (.func 67) #[] #[], .func (.func 68) #[] #[]]) (by kernel_rfl) (by kernel_rfl) (by decide) (by kernel_rfl) (fun d _ _ _ _ h => by cases d <;> first | exact h | exact h.later (drew_below _)) (by rw [← hU]; exact HU.out) ?_
  rw [← hU]
  clear hU
  iterate 3 ((apply wpOrd_take rfl rfl (by kernel_rfl); (intro V hV; go_simp; rfl)); (try simp only [List.setIfInBounds_toArray, List.set_cons_succ, List.set_cons_zero]))
  iterate 2 ((apply wpOrd_take rfl rfl (by kernel_rfl); (intro V hV; have r3 := hV.r 3 _ rfl; go_simp; rfl)); (try simp only [List.setIfInBounds_toArray, List.set_cons_succ, List.set_cons_zero]))
  iterate 2 ((apply wpOrd_take rfl rfl (by kernel_rfl); (intro V hV; go_simp; rfl)); (try simp only [List.setIfInBounds_toArray, List.set_cons_succ, List.set_cons_zero]))
  rw [← HTL.out]
  apply wpOrd_do rfl (by kernel_rfl)
  intro K hK
  go_simp
  refine (HRD.out g U HGU.out).mono ?_
  rintro e X ⟨rfl, hgr, hyes⟩
  have HX := Lib.hid (HU.out.gr hgr HGQ.out HGW.out)
  have HYES := Lib.hid hyes
  refine hK _ _ HX.out ?_
  clear hK K hgr hyes
  cases ro with
  | false =>
    have HRM := Lib.hid (show decM s = Ms.zero ∧ decME s = 4 from ⟨HDM.out, HDE.out⟩)
    iterate 3 ((apply wpOrd_take rfl rfl (by kernel_rfl); (intro V hV; go_simp; rfl)); (try simp only [List.setIfInBounds_toArray, List.set_cons_succ, List.set_cons_zero]))
    (apply wpOrd_undone2 rfl rfl (by kernel_rfl) HX.out); (try simp only [List.setIfInBounds_toArray, List.set_cons_succ, List.set_cons_zero])
    (apply wpOrd_undone2 rfl rfl (by kernel_rfl) HX.out); (try simp only [List.setIfInBounds_toArray, List.set_cons_succ, List.set_cons_zero])
    iterate 1 ((apply wpOrd_skip rfl rfl (by kernel_rfl)); (try simp only [List.setIfInBounds_toArray, List.set_cons_succ, List.set_cons_zero]))
    iterate 1 ((apply wpOrd_take rfl rfl (by kernel_rfl); (intro V hV; go_simp; rfl)); (try simp only [List.setIfInBounds_toArray, List.set_cons_succ, List.set_cons_zero]))
    refine wpOrd_nil ?_
    have HRC := Lib.hid (show X.heap[W.heap.size]? = some (.cells (Ms.zero.cs none 0) 38 (0, 0)) from HX.out.res)
    go_wp2_with ((with_reducible refine wpList_store_row rfl 38 (.tmp 2) (.tmp 53) rfl rfl W.heap.size rfl 38 (Ms.zero.cs none 0) #[.int .i64 0, .int .i64 0, .int .u32 0, .int .u32 0, .int .i64 0, .bool false, .slice none 0 0, .int .i64 0, .int .u32 0, .int .u32 0, .int .i64 0, .int .i64 0, .int .u32 0, .int .i64 0, .int .i64 0, .int .i64 0, .int .u32 0, .int .u64 0, .int .u64 0, .int .u64 0, .int .u64 0, .int .i64 0, .int .i64 0, .int .i64 0, .int .u32 0, .int .u32 0, .int .u8 0, .int .i64 0, .int .u32 0, .int .i64 0, .int .u32 0, .int .u32 0] rfl HRC.out info_zero HSS.out zero_one ?_))
    (try simp only [Exit.inBlock, Exit.then])
    refine bodyPost_ret (v := .tuple #[.agg (Ms.zero.cs none 0), .int .i64 4]) (results_cell rfl rfl rfl (box_setRow (n := Ms.zero) (sa := none) (sc := 0) (m := Ms.zero) HRC.out) Tryz.underlying38 rfl (info_msg Ms.zero none 0)) rfl ?_
    show DecM W (decM s) (decME s) _ _
    rw [HRM.out.1, HRM.out.2]
    exact ⟨none, 0, rfl, arow_nil _ _, below_setRow HX.out.bel (Nat.le_refl _)⟩

  | true =>
    obtain ⟨sa, sc, hbM, har⟩ := HYES.out rfl
    have HBM := Lib.hid hbM
    have HAR := Lib.hid har
    have HCH := Lib.hid (mcheck_any M sa sc X HGO.out har.adjs (by have := HGA.out; unfold maxLen; omega))
    clear hbM har
    iterate 3 ((apply wpOrd_take rfl rfl (by kernel_rfl); (intro V hV; go_simp; rfl)); (try simp only [List.setIfInBounds_toArray, List.set_cons_succ, List.set_cons_zero]))
    ((apply wpOrd_now rfl rfl (by kernel_rfl) (run_load_cs _ _ 38 (.tmp 6) rfl ⟨g, 0, none⟩ rfl (M.cs sa sc).toList _ (block_cells HBM.out) Tryz.underlying38 rfl (HSZ.out sa sc)) HX.out); (try simp only [List.setIfInBounds_toArray, List.set_cons_succ, List.set_cons_zero])); rw [Array.toArray_toList]
    apply wpOrd_do rfl (by kernel_rfl)
    intro K hK
    unfold Ms.ag at HCH
    go_simp
    refine HCH.out.mono ?_
    rintro e Z ⟨rfl, hb⟩
    have HZ := Lib.hid (HX.out.later hb)
    have HBZ := Lib.hid (HBM.out.later hb)
    have HAZ := Lib.hid (Row.later HAR.out hb)
    refine hK _ _ HZ.out ?_
    clear hK K hb
    cases hc : M.chk with
    | false =>
      have hme : M.err = 2 := by unfold Ms.err; rw [hc]; rfl
      have HRM := Lib.hid (show decM s = Ms.zero ∧ decME s = 4 from ⟨by rw [HDM.out, hc]; rfl, by rw [HDE.out, hc]; rfl⟩)
      rw [hme]
      clear hme hc
      iterate 2 ((apply wpOrd_take rfl rfl (by kernel_rfl); (intro V hV; go_simp; rfl)); (try simp only [List.setIfInBounds_toArray, List.set_cons_succ, List.set_cons_zero]))
      refine wpOrd_nil ?_
      have HRC := Lib.hid (show Z.heap[W.heap.size]? = some (.cells (Ms.zero.cs none 0) 38 (0, 0)) from HZ.out.res)
      go_wp2_with ((with_reducible refine wpList_store_row rfl 38 (.tmp 2) (.tmp 53) rfl rfl W.heap.size rfl 38 (Ms.zero.cs none 0) #[.int .i64 0, .int .i64 0, .int .u32 0, .int .u32 0, .int .i64 0, .bool false, .slice none 0 0, .int .i64 0, .int .u32 0, .int .u32 0, .int .i64 0, .int .i64 0, .int .u32 0, .int .i64 0, .int .i64 0, .int .i64 0, .int .u32 0, .int .u64 0, .int .u64 0, .int .u64 0, .int .u64 0, .int .i64 0, .int .i64 0, .int .i64 0, .int .u32 0, .int .u32 0, .int .u8 0, .int .i64 0, .int .u32 0, .int .i64 0, .int .u32 0, .int .u32 0] rfl HRC.out info_zero HSS.out zero_one ?_))
      (try simp only [Exit.inBlock, Exit.then])
      refine bodyPost_ret (v := .tuple #[.agg (Ms.zero.cs none 0), .int .i64 4]) (results_cell rfl rfl rfl (box_setRow (n := Ms.zero) (sa := none) (sc := 0) (m := Ms.zero) HRC.out) Tryz.underlying38 rfl (info_msg Ms.zero none 0)) rfl ?_
      show DecM W (decM s) (decME s) _ _
      rw [HRM.out.1, HRM.out.2]
      exact ⟨none, 0, rfl, arow_nil _ _, below_setRow HZ.out.bel (Nat.le_refl _)⟩

    | true =>
      have hme : M.err = 0 := by unfold Ms.err; rw [hc]; rfl
      have HRM := Lib.hid (show decM s = M ∧ decME s = 0 from ⟨by rw [HDM.out, hc]; rfl, by rw [HDE.out, hc]; rfl⟩)
      rw [hme]
      clear hme hc
      iterate 2 ((apply wpOrd_take rfl rfl (by kernel_rfl); (intro V hV; go_simp; rfl)); (try simp only [List.setIfInBounds_toArray, List.set_cons_succ, List.set_cons_zero]))
      refine wpOrd_nil ?_
      have HCC := Lib.hid (block_cells HBZ.out)
      have HRC := Lib.hid (show Z.heap[W.heap.size]? = some (.cells (Ms.zero.cs none 0) 38 (0, 0)) from HZ.out.res)
      have HS1 := Lib.hid (HSZ.out sa sc)
      have HS2 := Lib.hid (HSZ'.out sa sc)
      have HS3 := Lib.hid (HSM.out sa sc)
      have HS4 := Lib.hid (HONE.out sa sc)
      go_wp2_with (first | ((with_reducible refine wpList_load_cs rfl 38 (.tmp 6) rfl ⟨g, 0, none⟩ rfl (M.cs sa sc).toList _ HCC.out Tryz.underlying38 rfl HS1.out ?_); rw [Array.toArray_toList]) | (with_reducible refine wpList_store_row rfl 38 (.tmp 2) (.tmp 54) rfl rfl W.heap.size rfl 38 (Ms.zero.cs none 0) (M.cs sa sc) rfl HRC.out HS2.out HS3.out HS4.out ?_))
      (try simp only [Exit.inBlock, Exit.then])
      refine bodyPost_ret (v := .tuple #[.agg (M.cs sa sc), .int .i64 0]) (results_cell rfl rfl rfl (setRow_heap _ _ _ _ _ _ HRC.out) Tryz.underlying38 rfl (info_msg M sa sc)) rfl ?_
      show DecM W (decM s) (decME s) _ _
      rw [HRM.out.1, HRM.out.2]
      refine ⟨sa, sc, rfl, ?_, below_setRow HZ.out.bel (Nat.le_refl _)⟩
      have hlt := (Array.getElem?_eq_some_iff.1 HU.out.res).1
      refine (Row.more HAZ.out (Nat.le_of_lt hlt)).same fun k hk => ?_
      have := (Row.lt HAZ.out k hk).1
      exact setRow_other _ _ _ _ (by omega)
set_option maxHeartbeats 6400000 in
theorem mdec0 (s : ByteArray) (W : World) (h1 : 3 ≤ s.size) (h2 : s.size ≤ 512) (h3 : openE s = 0) (hk : ¬ (1 ≤ kindOf (openS s).data.toList ∧ kindOf (openS s).data.toList ≤ 5)) : Calls Tryz.prog 4 #[.string s] W (DecM W (decM s) (decME s)) := by
  obtain ⟨hsl, hsz⟩ := open_sealB h3
  obtain ⟨os, hos⟩ : ∃ o, o = openS s := ⟨_, rfl⟩
  rw [← hos] at hk hsz
  have ho1 : 1 ≤ os.size := by omega
  have ho2 : os.size ≤ 510 := by omega
  have ho3 : (1 : Int) ≤ (os.size : Int) := by omega
  obtain ⟨kk, hkk⟩ : ∃ k, k = kindOf os.data.toList := ⟨_, rfl⟩
  rw [← hkk] at hk
  have hx0 : (os[0].toNat : Int) = kk := (kindOf_head (s := os) (by omega)).symm.trans hkk.symm
  have hkk0 : 0 ≤ kk := by omega
  have hkk1 : kk ≤ 255 := by have := os[0].toNat_lt; omega
  have hkkw : IntKind.i64.wrap kk = kk := IntWalk.i64_in _ (by omega)
  have hbo : bodyOk os.data.toList = false := by
    unfold bodyOk
    rw [← hkk]
    have : (decide (1 ≤ kk) && decide (kk ≤ 5)) = false := by rw [Bool.and_eq_false_iff, decide_eq_false_iff_not, decide_eq_false_iff_not]; omega
    rw [this]; rfl
  have hde : decME s = 4 := by
    unfold decME
    rw [if_neg (by omega), if_neg (by omega), if_pos h3, ← hos, hbo]; rfl
  have hdm : decM s = Ms.zero := by
    unfold decM
    rw [hde]; rfl
  rw [hde, hdm]
  have hrc : rowC kk = [.int .i64 0, .nilFunc, .nilFunc, .nilFunc] := by
    unfold rowC
    rw [if_neg (by omega), if_neg (by omega), if_neg (by omega), if_neg (by omega), if_neg (by omega)]
  have hdk : (decide (1 ≤ kk) && decide (kk ≤ 5)) = false := by rw [Bool.and_eq_false_iff, decide_eq_false_iff_not, decide_eq_false_iff_not]; omega
  have hdl : decide (512 < (s.size : Int)) = false := decide_eq_false (by omega)
  have hdl2 : decide ((s.size : Int) < 3) = false := decide_eq_false (by omega)
  obtain ⟨W1, hW1⟩ : ∃ W1, W1 = W.alloc (.cells #[.int .i64 0, .int .i64 0, .int .u32 0, .int .u32 0, .int .i64 0, .bool false, .slice none 0 0, .int .i64 0, .int .u32 0, .int .u32 0, .int .i64 0, .int .i64 0, .int .u32 0, .int .i64 0, .int .i64 0, .int .i64 0, .int .u32 0, .int .u64 0, .int .u64 0, .int .u64 0, .int .u64 0, .int .i64 0, .int .i64 0, .int .i64 0, .int .u32 0, .int .u32 0, .int .u8 0, .int .i64 0, .int .u32 0, .int .i64 0, .int .u32 0, .int .u32 0] 38) := ⟨_, rfl⟩
  have hb1 : Below W.heap.size W W1 := by rw [hW1]; exact (Below.refl _ _).alloc (Nat.le_refl _) _
  have hbx : BoxM W.heap.size Ms.zero none 0 W1 := by rw [hW1]; exact heap_alloc_new _ _
  have HBX := Lib.hid hbx
  have HBC := Lib.hid (show W1.heap[W.heap.size]? = some (.cells (Ms.zero.cs none 0) 38 (0, 0)) from hbx)
  have HSS := Lib.hid (show (Ms.zero.cs none 0).size = (#[.int .i64 0, .int .i64 0, .int .u32 0, .int .u32 0, .int .i64 0, .bool false, .slice none 0 0, .int .i64 0, .int .u32 0, .int .u32 0, .int .i64 0, .int .i64 0, .int .u32 0, .int .i64 0, .int .i64 0, .int .i64 0, .int .u32 0, .int .u64 0, .int .u64 0, .int .u64 0, .int .u64 0, .int .i64 0, .int .i64 0, .int .i64 0, .int .u32 0, .int .u32 0, .int .u8 0, .int .i64 0, .int .u32 0, .int .i64 0, .int .u32 0, .int .u32 0] : Array Value).size from rfl)
  have HW1 := Lib.hid hW1
  have HB1 := Lib.hid hb1
  have HOF := Lib.hid (fun V => (of_any kk V).mono fun e X h => show e = .returned (.tuple #[.agg #[.int .i64 0, .nilFunc, .nilFunc, .nilFunc], .bool false]) ∧ Below V.heap.size V X from by
    obtain ⟨h1, h2⟩ := h
    rw [hrc, hdk] at h1
    exact ⟨h1, h2⟩)
  have HOS := Lib.hid hos
  have HOE := Lib.hid h3
  have HOP := Lib.hid (open_any s W1 (by omega))
  have HIK := Lib.hid (show (Tryz.prog.info? 38).map (·.size) = some (#[.int .i64 kk, .int .i64 0, .int .u32 0, .int .u32 0, .int .i64 0, .bool false, .slice none 0 0, .int .i64 0, .int .u32 0, .int .u32 0, .int .i64 0, .int .i64 0, .int .u32 0, .int .i64 0, .int .i64 0, .int .i64 0, .int .u32 0, .int .u64 0, .int .u64 0, .int .u64 0, .int .u64 0, .int .i64 0, .int .i64 0, .int .i64 0, .int .u32 0, .int .u32 0, .int .u8 0, .int .i64 0, .int .u32 0, .int .i64 0, .int .u32 0, .int .u32 0] : Array Value).size from info_msg' (Ms.m0 kk) none 0)
  have HSK := Lib.hid (show (#[.int .i64 0, .int .i64 0, .int .u32 0, .int .u32 0, .int .i64 0, .bool false, .slice none 0 0, .int .i64 0, .int .u32 0, .int .u32 0, .int .i64 0, .int .i64 0, .int .u32 0, .int .i64 0, .int .i64 0, .int .i64 0, .int .u32 0, .int .u64 0, .int .u64 0, .int .u64 0, .int .u64 0, .int .i64 0, .int .i64 0, .int .i64 0, .int .u32 0, .int .u32 0, .int .u8 0, .int .i64 0, .int .u32 0, .int .i64 0, .int .u32 0, .int .u32 0] : Array Value).size = (#[.int .i64 kk, .int .i64 0, .int .u32 0, .int .u32 0, .int .i64 0, .bool false, .slice none 0 0, .int .i64 0, .int .u32 0, .int .u32 0, .int .i64 0, .int .i64 0, .int .u32 0, .int .i64 0, .int .i64 0, .int .i64 0, .int .u32 0, .int .u64 0, .int .u64 0, .int .u64 0, .int .u64 0, .int .i64 0, .int .i64 0, .int .i64 0, .int .u32 0, .int .u32 0, .int .u8 0, .int .i64 0, .int .u32 0, .int .i64 0, .int .u32 0, .int .u32 0] : Array Value).size from rfl)
  have HOK := Lib.hid (show (#[.int .i64 kk, .int .i64 0, .int .u32 0, .int .u32 0, .int .i64 0, .bool false, .slice none 0 0, .int .i64 0, .int .u32 0, .int .u32 0, .int .i64 0, .int .i64 0, .int .u32 0, .int .i64 0, .int .i64 0, .int .i64 0, .int .u32 0, .int .u64 0, .int .u64 0, .int .u64 0, .int .u64 0, .int .i64 0, .int .i64 0, .int .i64 0, .int .u32 0, .int .u32 0, .int .u8 0, .int .i64 0, .int .u32 0, .int .i64 0, .int .u32 0, .int .u32 0] : Array Value).all (·.oneCell') = true from cs_one (Ms.m0 kk) none 0)
  have hos1 : 0 < os.size := by omega
  clear hW1 hb1 hbx hos h3 hk hkk hbo hde hdm hrc hdk hsl
  go_enter Tryz.func4, Tryz.ntmps4
  go_upto_region 1 with fail
  rw [← HW1.out]
  go_wp2_with fail
  refine HOP.out.mono ?_
  rintro e V ⟨rfl, hb⟩
  rw [← HOS.out, HOE.out]
  have HB2 := Lib.hid (HB1.out.trans (hb.mono HB1.out.size))
  have HZ2 := Lib.hid (HBX.out.later hb)
  have HAL := Lib.hid (show (V.alloc (.cells #[.int .i64 0, .int .i64 0, .int .u32 0, .int .u32 0, .int .i64 0, .bool false, .slice none 0 0, .int .i64 0, .int .u32 0, .int .u32 0, .int .i64 0, .int .i64 0, .int .u32 0, .int .i64 0, .int .i64 0, .int .i64 0, .int .u32 0, .int .u64 0, .int .u64 0, .int .u64 0, .int .u64 0, .int .i64 0, .int .i64 0, .int .i64 0, .int .u32 0, .int .u32 0, .int .u8 0, .int .i64 0, .int .u32 0, .int .i64 0, .int .u32 0, .int .u32 0] 38)).heap[V.heap.size]? = some (.cells #[.int .i64 0, .int .i64 0, .int .u32 0, .int .u32 0, .int .i64 0, .bool false, .slice none 0 0, .int .i64 0, .int .u32 0, .int .u32 0, .int .i64 0, .int .i64 0, .int .u32 0, .int .i64 0, .int .i64 0, .int .i64 0, .int .u32 0, .int .u64 0, .int .u64 0, .int .u64 0, .int .u64 0, .int .i64 0, .int .i64 0, .int .i64 0, .int .u32 0, .int .u32 0, .int .u8 0, .int .i64 0, .int .u32 0, .int .i64 0, .int .u32 0, .int .u32 0] 38 (0, 0)) from heap_alloc_new _ _)
  clear hb
  go_upto_region 9 with ((with_reducible refine wpList_store_row rfl 38 (.tmp 6) (.tmp 31) rfl rfl V.heap.size rfl 38 #[.int .i64 0, .int .i64 0, .int .u32 0, .int .u32 0, .int .i64 0, .bool false, .slice none 0 0, .int .i64 0, .int .u32 0, .int .u32 0, .int .i64 0, .int .i64 0, .int .u32 0, .int .i64 0, .int .i64 0, .int .i64 0, .int .u32 0, .int .u64 0, .int .u64 0, .int .u64 0, .int .u64 0, .int .i64 0, .int .i64 0, .int .i64 0, .int .u32 0, .int .u32 0, .int .u8 0, .int .i64 0, .int .u32 0, .int .i64 0, .int .u32 0, .int .u32 0] #[.int .i64 kk, .int .i64 0, .int .u32 0, .int .u32 0, .int .i64 0, .bool false, .slice none 0 0, .int .i64 0, .int .u32 0, .int .u32 0, .int .i64 0, .int .i64 0, .int .u32 0, .int .i64 0, .int .i64 0, .int .i64 0, .int .u32 0, .int .u64 0, .int .u64 0, .int .u64 0, .int .u64 0, .int .i64 0, .int .i64 0, .int .i64 0, .int .u32 0, .int .u32 0, .int .u8 0, .int .i64 0, .int .u32 0, .int .i64 0, .int .u32 0, .int .u32 0] rfl HAL.out HIK.out HSK.out HOK.out ?_))
  obtain ⟨g, hg⟩ : ∃ g, g = V.heap.size := ⟨_, rfl⟩
  obtain ⟨Y, hY⟩ : ∃ Y, Y = (V.alloc (.cells #[.int .i64 0, .int .i64 0, .int .u32 0, .int .u32 0, .int .i64 0, .bool false, .slice none 0 0, .int .i64 0, .int .u32 0, .int .u32 0, .int .i64 0, .int .i64 0, .int .u32 0, .int .i64 0, .int .i64 0, .int .i64 0, .int .u32 0, .int .u64 0, .int .u64 0, .int .u64 0, .int .u64 0, .int .i64 0, .int .i64 0, .int .i64 0, .int .u32 0, .int .u32 0, .int .u8 0, .int .i64 0, .int .u32 0, .int .i64 0, .int .u32 0, .int .u32 0] 38)).setRow V.heap.size #[.int .i64 kk, .int .i64 0, .int .u32 0, .int .u32 0, .int .i64 0, .bool false, .slice none 0 0, .int .i64 0, .int .u32 0, .int .u32 0, .int .i64 0, .int .i64 0, .int .u32 0, .int .i64 0, .int .i64 0, .int .i64 0, .int .u32 0, .int .u64 0, .int .u64 0, .int .u64 0, .int .u64 0, .int .i64 0, .int .i64 0, .int .i64 0, .int .u32 0, .int .u32 0, .int .u8 0, .int .i64 0, .int .u32 0, .int .i64 0, .int .u32 0, .int .u32 0] := ⟨_, rfl⟩
  have hgY : BoxM g (Ms.m0 kk) none 0 Y := by rw [hY, hg]; exact setRow_heap _ _ _ _ _ _ HAL.out
  have hbY : Below V.heap.size V Y := by rw [hY]; exact below_setRow ((Below.refl _ _).alloc (Nat.le_refl _) _) (Nat.le_refl _)
  have HGY := Lib.hid hgY
  have HBY := Lib.hid (HB2.out.trans (hbY.mono HB2.out.size))
  have HZY := Lib.hid (HZ2.out.later hbY)
  have HGW := Lib.hid (show W.heap.size < g by rw [hg]; exact (Array.getElem?_eq_some_iff.1 HZ2.out).1)
  have x0 : Y.cell? ⟨g, 0, none⟩ = some (.int .i64 kk) := hgY.cell rfl
  rw [← hY, ← hg]
  clear hY hg hgY hbY
  go_wp2_with fail
  refine (HOF.out Y).mono ?_
  rintro e V0 ⟨rfl, hb⟩
  obtain ⟨W2, hW2⟩ : ∃ W2, W2 = V0.alloc (.cells #[.int .i64 0, .nilFunc, .nilFunc, .nilFunc] 54) := ⟨_, rfl⟩
  obtain ⟨q, hq⟩ : ∃ q, q = V0.heap.size := ⟨_, rfl⟩
  have hb2 : Below Y.heap.size Y W2 := by rw [hW2]; exact hb.alloc hb.size _
  have HDS := Lib.hid (show DcS W q #[.int .i64 0, .nilFunc, .nilFunc, .nilFunc] W2 from ⟨HBY.out.trans (hb2.mono HBY.out.size), HZY.out.later hb2, by rw [hW2, hq]; exact heap_alloc_new _ _⟩)
  have HG2 := Lib.hid (show BoxM g (Ms.m0 kk) none 0 W2 from HGY.out.later hb2)
  have HGQ := Lib.hid (show g ≠ q by
    have h1 := (Array.getElem?_eq_some_iff.1 HGY.out).1
    have h2 := hb.size
    omega)
  have HW2 := Lib.hid hW2
  have HQ := Lib.hid hq
  clear hb hb2 hW2 hq HOF x0
  go_wp2_with fail
  rw [← HQ.out, ← HW2.out]
  obtain ⟨U, hU⟩ : ∃ U, U = W2.drew := ⟨_, rfl⟩
  have HU := Lib.hid (show DcS W q #[.int .i64 0, .nilFunc, .nilFunc, .nilFunc] U by rw [hU]; exact HDS.out.later (drew_below _))
  have HGU := Lib.hid (show BoxM g (Ms.m0 kk) none 0 U by rw [hU]; exact HG2.out)
  refine wp_region_ord [(0, true), (1, true), (2, true), (3, true), (4, true), (5, true), (6, true), (7, false), (8, true), (9, true), (10, true), (11, false), (12, false), (13, true), (14, true)] (DcS W q #[.int .i64 0, .nilFunc, .nilFunc, .nilFunc]) (by kernel_rfl) (by kernel_rfl) (by decide) (by kernel_rfl) (fun d _ _ _ _ h => by cases d <;> first | exact h | exact h.later (drew_below _)) (by rw [← hU]; exact HU.out) ?_
  rw [← hU]
  clear hU
  iterate 3 ((apply wpOrd_take rfl rfl (by kernel_rfl); (intro V hV; go_simp; rfl)); (try simp only [List.setIfInBounds_toArray, List.set_cons_succ, List.set_cons_zero]))
  iterate 4 ((apply wpOrd_skip rfl rfl (by kernel_rfl)); (try simp only [List.setIfInBounds_toArray, List.set_cons_succ, List.set_cons_zero]))
  (apply wpOrd_undone2 rfl rfl (by kernel_rfl) HU.out); (try simp only [List.setIfInBounds_toArray, List.set_cons_succ, List.set_cons_zero])
  iterate 1 ((apply wpOrd_skip rfl rfl (by kernel_rfl)); (try simp only [List.setIfInBounds_toArray, List.set_cons_succ, List.set_cons_zero]))
  iterate 2 ((apply wpOrd_take rfl rfl (by kernel_rfl); (intro V hV; go_simp; rfl)); (try simp only [List.setIfInBounds_toArray, List.set_cons_succ, List.set_cons_zero]))
  (apply wpOrd_undone2 rfl rfl (by kernel_rfl) HU.out); (try simp only [List.setIfInBounds_toArray, List.set_cons_succ, List.set_cons_zero])
  (apply wpOrd_undone2 rfl rfl (by kernel_rfl) HU.out); (try simp only [List.setIfInBounds_toArray, List.set_cons_succ, List.set_cons_zero])
  iterate 1 ((apply wpOrd_skip rfl rfl (by kernel_rfl)); (try simp only [List.setIfInBounds_toArray, List.set_cons_succ, List.set_cons_zero]))
  iterate 1 ((apply wpOrd_take rfl rfl (by kernel_rfl); (intro V hV; go_simp; rfl)); (try simp only [List.setIfInBounds_toArray, List.set_cons_succ, List.set_cons_zero]))
  refine wpOrd_nil ?_
  have HRC := Lib.hid (show U.heap[W.heap.size]? = some (.cells (Ms.zero.cs none 0) 38 (0, 0)) from HU.out.res)
  go_wp2_with ((with_reducible refine wpList_store_row rfl 38 (.tmp 2) (.tmp 53) rfl rfl W.heap.size rfl 38 (Ms.zero.cs none 0) #[.int .i64 0, .int .i64 0, .int .u32 0, .int .u32 0, .int .i64 0, .bool false, .slice none 0 0, .int .i64 0, .int .u32 0, .int .u32 0, .int .i64 0, .int .i64 0, .int .u32 0, .int .i64 0, .int .i64 0, .int .i64 0, .int .u32 0, .int .u64 0, .int .u64 0, .int .u64 0, .int .u64 0, .int .i64 0, .int .i64 0, .int .i64 0, .int .u32 0, .int .u32 0, .int .u8 0, .int .i64 0, .int .u32 0, .int .i64 0, .int .u32 0, .int .u32 0] rfl HRC.out info_zero HSS.out zero_one ?_))
  (try simp only [Exit.inBlock, Exit.then])
  refine bodyPost_ret (v := .tuple #[.agg (Ms.zero.cs none 0), .int .i64 4]) (results_cell rfl rfl rfl (box_setRow (n := Ms.zero) (sa := none) (sc := 0) (m := Ms.zero) HRC.out) Tryz.underlying38 rfl (info_msg Ms.zero none 0)) rfl ?_
  exact ⟨none, 0, rfl, arow_nil _ _, below_setRow HU.out.bel (Nat.le_refl _)⟩

theorem mdecode_any (s : ByteArray) (W : World) (hs : s.size ≤ 140737488355000) : Calls Tryz.prog 4 #[.string s] W (DecM W (decM s) (decME s)) := by
  by_cases h1 : 512 < s.size
  · exact mdec_long s W h1 hs
  by_cases h2 : s.size < 3
  · exact mdec_short s W h2
  by_cases h3 : openE s = 0
  · by_cases hk : 1 ≤ kindOf (openS s).data.toList ∧ kindOf (openS s).data.toList ≤ 5
    · rcases (show kindOf (openS s).data.toList = 1 ∨ kindOf (openS s).data.toList = 2 ∨ kindOf (openS s).data.toList = 3 ∨ kindOf (openS s).data.toList = 4 ∨ kindOf (openS s).data.toList = 5 by omega) with h | h | h | h | h
      · exact mdec1 s W (by omega) (by omega) h3 h
      · exact mdec2 s W (by omega) (by omega) h3 h
      · exact mdec3 s W (by omega) (by omega) h3 h
      · exact mdec4 s W (by omega) (by omega) h3 h
      · exact mdec5 s W (by omega) (by omega) h3 h
    · exact mdec0 s W (by omega) (by omega) h3 hk
  · exact mdec_sum s W (by omega) (by omega) h3

end Go.Proofs.YtickjmkkgcfkhaaGreat
