/- Contracts of the record: record.Decode. -/
import Derived.Test.YtickjmkkgcfkhaaGreatRecK
set_option linter.unusedSimpArgs false
set_option linter.unusedVariables false
set_option maxRecDepth 100000
namespace Go.Proofs.YtickjmkkgcfkhaaGreat
open Go.RowKit Go.ChangeShapes Go.WideShapes

/-- A record that the call made itself, as its answer. -/
def DecPost (W : World) (r : Rc) (e : Int) (en : Ending) (W' : World) : Prop := ∃ sa sc, en = .returned (.tuple #[r.ag sa sc, .int .i64 e]) ∧ ARow W' W.heap.size sa sc r.adjs ∧ Below W.heap.size W W'
theorem Row.setOther {V : World} {base : Nat} {e : TypeId} {size : Nat} {v : Value} {n : Nat} {xs : List Value} (h : Row V base e size v n xs) (p : Addr) (u : Value) (hp : p.block < base) : Row (V.setCell p u) base e size v n xs :=
  h.same fun k hk => heap_setCell_other _ _ _ _ (by have := (h.lt k hk).1; omega)
theorem three_ok (s : ByteArray) (k : Nat) : ((decide (13 + 3 * k ≤ s.size) && decide (13 + 3 * k + 1 ≤ s.size)) && decide (13 + 3 * k + 1 + 2 ≤ s.size)) = decide (13 + 3 * (k + 1) ≤ s.size) := by
  by_cases h : 13 + 3 * (k + 1) ≤ s.size
  · rw [decide_eq_true (show 13 + 3 * k ≤ s.size by omega), decide_eq_true (show 13 + 3 * k + 1 ≤ s.size by omega), decide_eq_true (show 13 + 3 * k + 1 + 2 ≤ s.size by omega), decide_eq_true h]; rfl
  · rw [decide_eq_false (show ¬ 13 + 3 * k + 1 + 2 ≤ s.size by omega), decide_eq_false h, Bool.and_false]
theorem six_ok (s : ByteArray) : ((((((true && decide (0 + 1 ≤ s.size)) && decide (0 + 1 + 4 ≤ s.size)) && decide (0 + 1 + 4 + 4 ≤ s.size)) && decide (0 + 1 + 4 + 4 + 2 ≤ s.size)) && decide (0 + 1 + 4 + 4 + 2 + 1 ≤ s.size)) && decide (0 + 1 + 4 + 4 + 2 + 1 + 1 ≤ s.size)) = decide (13 ≤ s.size) := by
  by_cases h : 13 ≤ s.size
  · rw [decide_eq_true (show 0 + 1 ≤ s.size by omega), decide_eq_true (show 0 + 1 + 4 ≤ s.size by omega), decide_eq_true (show 0 + 1 + 4 + 4 ≤ s.size by omega), decide_eq_true (show 0 + 1 + 4 + 4 + 2 ≤ s.size by omega), decide_eq_true (show 0 + 1 + 4 + 4 + 2 + 1 ≤ s.size by omega), decide_eq_true (show 0 + 1 + 4 + 4 + 2 + 1 + 1 ≤ s.size by omega)]; rfl
  · rw [decide_eq_false (show ¬ 0 + 1 + 4 + 4 + 2 + 1 + 1 ≤ s.size by omega), Bool.and_false]

set_option maxRecDepth 100000 in
set_option maxHeartbeats 8000000 in
theorem decode_any (s : ByteArray) (W : World) (hs : s.size ≤ 140737488355328) :
    Calls Tryz.prog 47 #[.string s] W (DecPost W (decR s.data.toList) (decE s.data.toList)) := by
  obtain ⟨W1, hW1⟩ : ∃ W1, W1 = W.alloc (.cells #[.int .i64 0, .int .u32 0, .int .u32 0, .int .i64 0, .bool false, .slice none 0 0] 25) := ⟨_, rfl⟩
  have hb1 : Below W.heap.size W W1 := by rw [hW1]; exact (Below.refl _ _).alloc (Nat.le_refl _) _
  have hz : BoxR W.heap.size Rc.zero none 0 W1 := by rw [hW1]; exact heap_alloc_new _ _
  have hsz1 : W1.heap.size = W.heap.size + 1 := by rw [hW1, World.size_alloc]
  obtain ⟨t0, ht0⟩ : ∃ t, t = tk s 0 1 := ⟨_, rfl⟩
  obtain ⟨t1, ht1⟩ : ∃ t, t = tk s 1 4 := ⟨_, rfl⟩
  obtain ⟨t2, ht2⟩ : ∃ t, t = tk s 5 4 := ⟨_, rfl⟩
  obtain ⟨t3, ht3⟩ : ∃ t, t = tk s 9 2 := ⟨_, rfl⟩
  obtain ⟨ti, hti⟩ : ∃ t, t = tk s 11 1 := ⟨_, rfl⟩
  obtain ⟨n, hn⟩ : ∃ t, t = tk s 12 1 := ⟨_, rfl⟩
  have bt0 : t0 < 256 := by rw [ht0]; exact tk_lt s 0 (m := 1) (by omega)
  have bt1 : t1 < 4294967296 := by rw [ht1]; exact tk_lt s 1 (m := 4) (by omega)
  have bt2 : t2 < 4294967296 := by rw [ht2]; exact tk_lt s 5 (m := 4) (by omega)
  have bt3 : t3 < 65536 := by rw [ht3]; exact tk_lt s 9 (m := 2) (by omega)
  have bti : ti < 256 := by rw [hti]; exact tk_lt s 11 (m := 1) (by omega)
  have bn : n < 256 := by rw [hn]; exact tk_lt s 12 (m := 1) (by omega)
  have w0 : IntKind.i64.wrap (t0 : Int) = (t0 : Int) := IntWalk.i64_in _ (by omega)
  have w1 : IntKind.u32.wrap (t1 : Int) = (t1 : Int) := IntWalk.u32_in _ (by omega)
  have w2 : IntKind.u32.wrap (t2 : Int) = (t2 : Int) := IntWalk.u32_in _ (by omega)
  have w3 : IntKind.i64.wrap (t3 : Int) = (t3 : Int) := IntWalk.i64_in _ (by omega)
  have hent : ∀ args w, (callFunc 97 args).run Tryz.prog w = .ok (.enter 97 args) w := fun _ _ => by kernel_rfl
  have henw : ∀ args w, (callFunc 98 args).run Tryz.prog w = .ok (.enter 98 args) w := fun _ _ => by kernel_rfl
  have HRC := Lib.hid (show ∀ g k, rcT s g k = ⟨(t0 : Nat), t1, t2, (t3 : Nat), g, adjT s k⟩ from fun g k => by unfold rcT; rw [← ht0, ← ht1, ← ht2, ← ht3])
  have Ht0 := Lib.hid ht0
  have Ht1 := Lib.hid ht1
  have Ht2 := Lib.hid ht2
  have Ht3 := Lib.hid ht3
  have Hti := Lib.hid hti
  have Hn := Lib.hid hn
  have HB1 := Lib.hid hb1
  have HZ := Lib.hid hz
  have HSZ := Lib.hid hsz1
  have HW1 := Lib.hid hW1
  clear ht0 ht1 ht2 ht3 hti hn hb1 hz hsz1 hW1
  go_enter Tryz.func47, Tryz.ntmps47
  go_wp2_with fail
  rw [← HW1.out]
  refine (read_any s W1).mono ?_
  rintro e V0 ⟨rfl, hr, hb⟩
  have HS0 := Lib.hid (show DeS W s 0 true V0 from ⟨HZ.out.later hb, by rw [← HSZ.out]; exact hr, HB1.out.trans (hb.mono HB1.out.size)⟩)
  rw [HSZ.out]
  clear hr hb
  go_wp2_with fail
  refine (takec_any (W.heap.size + 1) s _ 1 _ V0 HS0.out.rd (by omega) (by omega) hs).mono ?_
  rintro e V1 ⟨rfl, hr, hf⟩
  have HS1 := Lib.hid (HS0.out.fr hr hf)
  clear hr hf
  simp only [Nat.zero_add, Nat.reduceAdd]
  rw [← Ht0.out]
  go_wp2_with fail
  refine (takec_any (W.heap.size + 1) s _ 4 _ V1 HS1.out.rd (by omega) (by omega) hs).mono ?_
  rintro e V2 ⟨rfl, hr, hf⟩
  have HS2 := Lib.hid (HS1.out.fr hr hf)
  clear hr hf
  simp only [Nat.zero_add, Nat.reduceAdd]
  rw [← Ht1.out]
  go_wp2_with fail
  refine (takec_any (W.heap.size + 1) s _ 4 _ V2 HS2.out.rd (by omega) (by omega) hs).mono ?_
  rintro e V3 ⟨rfl, hr, hf⟩
  have HS3 := Lib.hid (HS2.out.fr hr hf)
  clear hr hf
  simp only [Nat.zero_add, Nat.reduceAdd]
  rw [← Ht2.out]
  go_wp2_with fail
  refine (takec_any (W.heap.size + 1) s _ 2 _ V3 HS3.out.rd (by omega) (by omega) hs).mono ?_
  rintro e V4 ⟨rfl, hr, hf⟩
  have HS4 := Lib.hid (HS3.out.fr hr hf)
  clear hr hf
  simp only [Nat.zero_add, Nat.reduceAdd]
  rw [← Ht3.out]
  obtain ⟨X, hX⟩ : ∃ X, X = V4.alloc (.cells #[.int .i64 (t0 : Int), .int .u32 (t1 : Int), .int .u32 (t2 : Int), .int .i64 (t3 : Int), .bool false, .slice none 0 0] 25) := ⟨_, rfl⟩
  have hbX : Below V4.heap.size V4 X := by rw [hX]; exact (Below.refl _ _).alloc (Nat.le_refl _) _
  have hx : X.heap[V4.heap.size]? = some (.cells #[.int .i64 (t0 : Int), .int .u32 (t1 : Int), .int .u32 (t2 : Int), .int .i64 (t3 : Int), .bool false, .slice none 0 0] 25 (0, 0)) := by rw [hX]; exact heap_alloc_new _ _
  obtain ⟨q, hq⟩ : ∃ q, q = V4.heap.size := ⟨_, rfl⟩
  have hqh : W.heap.size + 3 < q := by rw [hq]; exact (Array.getElem?_eq_some_iff.1 HS4.out.rd.yes).1
  rw [← hq] at hx
  have HSX := Lib.hid (HS4.out.later hbX)
  have HXB := Lib.hid hx
  have HX := Lib.hid hX
  have HQ := Lib.hid hq
  clear hX hbX hx hq
  go_wp2_with fail
  rw [← HX.out, ← HQ.out]
  refine (takec_any (W.heap.size + 1) s _ 1 _ X HSX.out.rd (by omega) (by omega) hs).mono ?_
  rintro e V5 ⟨rfl, hr, hf⟩
  have HS5 := Lib.hid (HSX.out.fr hr hf)
  have HX5 := Lib.hid (hf.keep HXB.out (by omega) (by omega))
  clear hr hf
  simp only [Nat.zero_add, Nat.reduceAdd]
  rw [← Hti.out]
  obtain ⟨g, hg⟩ : ∃ g : Bool, g = (ti == 1) := ⟨_, rfl⟩
  have hgi : (((ti : Nat) : Int) == 1) = g := by
    rw [hg, Bool.eq_iff_iff]; simp only [beq_iff_eq]; omega
  obtain ⟨Y, hY⟩ : ∃ Y, Y = V5.setCell ⟨q, 4, none⟩ (.bool g) := ⟨_, rfl⟩
  have y4 := (cell_of_row _ _ 4 _ _ _ HX5.out).trans rfl
  have fy4 := frozen_of_row _ _ 4 _ _ HX5.out
  have hgrY : V5.grownBy Y (some q) := by rw [hY]; exact ⟨rfl, rfl, rfl, by simp, fun k _ hne => heap_setCell_other V5 ⟨q, 4, none⟩ k _ (fun e => hne (by rw [e]))⟩
  have HSY := Lib.hid (HS5.out.grown hgrY (fun k hk => by cases hk; exact hqh))
  have HYB := Lib.hid (show Y.heap[q]? = some (.cells #[.int .i64 (t0 : Int), .int .u32 (t1 : Int), .int .u32 (t2 : Int), .int .i64 (t3 : Int), .bool g, .slice none 0 0] 25 (0, 0)) by rw [hY]; exact heap_setCell_same V5 q 4 _ _ (.bool g) HX5.out)
  have HY := Lib.hid hY
  have HG := Lib.hid hg
  clear hY hgrY hg
  go_wp2_with fail
  rw [← HY.out]
  refine (takec_any (W.heap.size + 1) s _ 1 _ Y HSY.out.rd (by omega) (by omega) hs).mono ?_
  rintro e V6 ⟨rfl, hr, hf⟩
  have hs6 := HSY.out.fr hr hf
  rw [six_ok] at hs6
  have HS6 := Lib.hid hs6
  have HX6 := Lib.hid (hf.keep HYB.out (by omega) (by omega))
  clear hr hf hs6 y4 fy4
  simp only [Nat.zero_add, Nat.reduceAdd]
  rw [← Hn.out]
  have z0 := HS6.out.res.cells
  obtain ⟨z0, z1, z2, z3, z4, z5⟩ := z0
  have f0 := frozen_of_row _ _ 0 _ _ HS6.out.res
  have f1 := frozen_of_row _ _ 1 _ _ HS6.out.res
  have f2 := frozen_of_row _ _ 2 _ _ HS6.out.res
  have f3 := frozen_of_row _ _ 3 _ _ HS6.out.res
  have f4 := frozen_of_row _ _ 4 _ _ HS6.out.res
  have f5 := frozen_of_row _ _ 5 _ _ HS6.out.res
  simp only [Rc.zero, List.length_nil] at z0 z1 z2 z3 z4 z5
  by_cases hno : 16 < n ∨ 1 < ti
  · have HD := Lib.hid (show decOk s.data.toList = false from decOk_no (by rw [← Hn.out, ← Hti.out]; omega))
    have hw : (16 < n) ∨ (¬ 16 < n ∧ 1 < ti) := by omega
    clear hno
    rcases hw with h1 | ⟨h1, h2⟩
    all_goals
      go_wp2_with fail
      (try simp only [Exit.inBlock, Exit.then])
      refine bodyPost_ret (v := .tuple #[(decR s.data.toList).ag none 0, .int .i64 (decE s.data.toList)]) ?_ rfl ⟨none, 0, rfl, ?_, ?_⟩
      · simp only [results, Tryz.results47]
        unfold decR decE
        rw [HD.out]
        go_simp
        rfl
      · unfold decR
        rw [HD.out]
        exact Row.nil_ _ _ _ _
      · repeat (with_reducible refine Below.setCell ?_ (by simp only; omega) _)
        exact HS6.out.bel
  · have h1 : ¬ 16 < n := fun h => hno (.inl h)
    have h2 : ¬ 1 < ti := fun h => hno (.inr h)
    clear hno
    have HR0 := Lib.hid (show DecRel W s q n g (.int .u64 0) V6 from ⟨0, none, 0, rfl, Nat.zero_le _, HS6.out, by rw [HRC.out]; exact HX6.out, Row.nil_ _ _ _ _, hqh⟩)
    clear z0 z1 z2 z3 z4 z5 f0 f1 f2 f3 f4 f5
    go_wp2_with fail
    go_loopw [42] (fun i wr => DecRel W s q n g i wr) (fun i _ => 17 - (intOf i).toNat)
    case atStart => exact HR0.out
    case round =>
      obtain ⟨k, sa, sc, rfl, hk, hds, hbx, hro, _⟩ := hrel
      by_cases hlt : k < n
      · have hlti : (k : Int) < (n : Int) := by omega
        have hd : decide ((k : Int) < (n : Int)) = true := decide_eq_true hlti
        obtain ⟨to, hto⟩ : ∃ t, t = tk s (13 + 3 * k) 1 := ⟨_, rfl⟩
        obtain ⟨co, hco⟩ : ∃ t, t = tk s (13 + 3 * k + 1) 2 := ⟨_, rfl⟩
        have bto : to < 256 := by rw [hto]; exact tk_lt s _ (m := 1) (by omega)
        have bco : co < 65536 := by rw [hco]; exact tk_lt s _ (m := 2) (by omega)
        have wto : IntKind.i64.wrap (to : Int) = (to : Int) := IntWalk.i64_in _ (by omega)
        have wco : IntKind.i64.wrap (co : Int) = (co : Int) := IntWalk.i64_in _ (by omega)
        obtain ⟨i0, hi, hz0, hz1, hz2⟩ := info_parts infoA
        obtain ⟨U, hU⟩ : ∃ U, U = wr.drew := ⟨_, rfl⟩
        have hdw : Below wr.heap.size wr U := by rw [hU]; exact ⟨rfl, rfl, rfl, Nat.le_refl _, fun _ _ => rfl⟩
        have HDS := Lib.hid (hds.later hdw)
        have HBX := Lib.hid (hbx.later hdw)
        have HRO := Lib.hid (Row.later hro hdw)
        have HTO := Lib.hid hto
        have HCO := Lib.hid hco
        have hal := adjT_len s k
        have HLF := Lib.hid (show ∀ V, BoxR q (rcT s g k) sa sc V → V.cell? ⟨q, 5, none⟩ = some (.slice sa k sc) from fun V h => by have := h.cells.2.2.2.2.2; rw [show (rcT s g k).adjs.length = k from hal] at this; exact this)
        have hrs := hro
        unfold ARow at hrs
        rw [hal] at hrs
        have HRS := Lib.hid (Row.later hrs hdw)
        clear hds hbx hro hrs hdw hto hco hal hlt
        go_wp2_with fail
        refine wp_region_ordB [(0, 0), (1, 0), (2, 0), (5, 0), (3, 2), (4, 0), (6, 2), (7, 0), (8, 0), (9, 2), (10, 2), (11, 0), (12, 3)] [12] (BoxR q (rcT s g k) sa sc) (by kernel_rfl) (by kernel_rfl) (by decide) (by kernel_rfl) (fun d _ _ _ _ h => by cases d <;> exact h) (by rw [← hU]; exact HBX.out) ?_
        rw [← hU]
        clear hU
        iterate 4 ((apply wpOrdB_take rfl rfl (by kernel_rfl); (intro V hV; have x5 := HLF.out V hV; go_simp; rfl)); (try simp only [List.setIfInBounds_toArray, List.set_cons_succ, List.set_cons_zero]))
        apply wpOrdB_do rfl (by kernel_rfl)
        intro K hK
        go_simp
        refine (takec_any (W.heap.size + 1) s _ 1 _ U HDS.out.rd (by omega) (by omega) hs).mono ?_
        rintro e A1 ⟨rfl, hr, hf⟩
        have HDA1 := Lib.hid (HDS.out.fr hr hf)
        have HBA1 := Lib.hid (show BoxR q (rcT s g k) sa sc A1 from hf.keep HBX.out (by omega) (by omega))
        have HRA1 := Lib.hid (show Row A1 (q + 1) 45 2 (.slice sa k sc) k (adjV (adjT s k)) from Row.same HRS.out fun j hj => hf.block j (Row.lt HRS.out j hj).2 (by have := (Row.lt HRS.out j hj).1; omega) (by have := (Row.lt HRS.out j hj).1; omega))
        rw [← HTO.out]
        refine hK _ _ HBA1.out ?_
        clear hK K hr hf
        iterate 1 ((apply wpOrdB_take rfl rfl (by kernel_rfl); (intro V hV; go_simp; rfl)); (try simp only [List.setIfInBounds_toArray, List.set_cons_succ, List.set_cons_zero]))
        apply wpOrdB_do rfl (by kernel_rfl)
        intro K hK
        go_simp
        refine (takec_any (W.heap.size + 1) s _ 2 _ A1 HDA1.out.rd (by omega) (by omega) hs).mono ?_
        rintro e A2 ⟨rfl, hr, hf⟩
        have HDA2 := Lib.hid (HDA1.out.fr hr hf)
        have HBA2 := Lib.hid (show BoxR q (rcT s g k) sa sc A2 from hf.keep HBA1.out (by omega) (by omega))
        have HRA2 := Lib.hid (show Row A2 (q + 1) 45 2 (.slice sa k sc) k (adjV (adjT s k)) from Row.same HRA1.out fun j hj => hf.block j (Row.lt HRA1.out j hj).2 (by have := (Row.lt HRA1.out j hj).1; omega) (by have := (Row.lt HRA1.out j hj).1; omega))
        rw [← HCO.out]
        refine hK _ _ HBA2.out ?_
        clear hK K hr hf
        iterate 2 ((apply wpOrdB_take rfl rfl (by kernel_rfl); (intro V hV; go_simp; rfl)); (try simp only [List.setIfInBounds_toArray, List.set_cons_succ, List.set_cons_zero]))
        apply wpOrdB_do rfl (by kernel_rfl)
        intro K hK
        go_simp
        obtain ⟨A3, hA3⟩ : ∃ A3, A3 = A2.alloc (.cells #[.int .i64 (to : Int), .int .i64 (co : Int)] 45) := ⟨_, rfl⟩
        have hbA3 : Below A2.heap.size A2 A3 := by rw [hA3]; exact (Below.refl _ _).alloc (Nat.le_refl _) _
        have HNEW := Lib.hid (show ∀ j x, [Value.int .i64 (to : Int), Value.int .i64 (co : Int)][j]? = some x → A3.cell? ((⟨A2.heap.size, 0, none⟩ : Addr).add j) = some x by rw [hA3]; exact cell_two_new2 A2 _ _ _)
        have HDA3 := Lib.hid (HDA2.out.later hbA3)
        have HBA3 := Lib.hid (HBA2.out.later hbA3)
        have HRA3 := Lib.hid (Row.later HRA2.out hbA3)
        rw [← hA3]
        refine hK _ _ HBA3.out ?_
        clear hK K hA3 hbA3
        apply wpOrdB_do rfl (by kernel_rfl)
        intro K hK
        refine wp_append_row _ (.tmp 45) (.tmp 53) 23 rfl (q + 1) 45 i0 (.agg #[.int .i64 0, .int .i64 0]) 2 16 Tryz.underlying23 hi hz0 hz1 hz2 rfl (by decide) (.slice sa k sc) k (adjV (adjT s k)) rfl HRA3.out ⟨A2.heap.size, 0, none⟩ 1 1 [.int .i64 (to : Int), .int .i64 (co : Int)] rfl rfl HNEW.out ?_ ?_ ?_ (Array.getElem?_eq_some_iff.1 HBA3.out).1 ?_
        · intro u hu
          simp only [List.mem_cons, List.not_mem_nil, or_false] at hu
          rcases hu with rfl | rfl <;> rfl
        · unfold maxLen; omega
        · omega
        intro v' A4 hrow4 hg4 _ _
        have hown : ∀ j, (Value.slice sa k sc).ownBlock = some j → q + 1 ≤ j := fun j hj => (Row.lt HRA3.out j hj).1
        have HDA4 := Lib.hid (HDA3.out.grown hg4 (fun j hj => by have := hown j hj; omega))
        have HBA4 := Lib.hid (show BoxR q (rcT s g k) sa sc A4 from (hg4.block _ (Array.getElem?_eq_some_iff.1 HBA3.out).1 (fun e => by have := hown q e.symm; omega)).trans HBA3.out)
        obtain ⟨sa', sc', hv', _, _⟩ := Row.shape hrow4
        subst hv'
        have HR4 := Lib.hid hrow4
        refine hK _ _ HBA4.out ?_
        clear hK K hrow4 hg4 hown
        simp only [Act.put, List.setIfInBounds_toArray, List.set_cons_succ, List.set_cons_zero]
        iterate 1 ((apply wpOrdB_take rfl rfl (by kernel_rfl); (intro V hV; go_simp; rfl)); (try simp only [List.setIfInBounds_toArray, List.set_cons_succ, List.set_cons_zero]))
        apply wpOrdB_last rfl (by kernel_rfl)
        intro K hK
        have c5 := HLF.out A4 HBA4.out
        have f5 := frozen_of_row _ _ 5 _ _ HBA4.out
        have hcs := HBA4.out
        unfold BoxR Rc.cs at hcs
        rw [HRC.out] at hcs
        simp only at hcs
        have hset := heap_setCell_same A4 q 5 _ _ (.slice sa' (k + 1) sc') hcs
        have hgs : A4.grownBy (A4.setCell ⟨q, 5, none⟩ (.slice sa' (k + 1) sc')) (some q) := ⟨rfl, rfl, rfl, by simp, fun j _ hne => heap_setCell_other A4 ⟨q, 5, none⟩ j _ (fun e => hne (by rw [e]))⟩
        have HR := Lib.hid (show DecRel W s q n g (.int .u64 ((k : Int) + 1)) (A4.setCell ⟨q, 5, none⟩ (.slice sa' (k + 1) sc')) from by
          refine ⟨k + 1, sa', sc', by go_num, by omega, ?_, ?_, ?_, hqh⟩
          · have h := HDA4.out.grown hgs (fun j hj => by cases hj; exact hqh)
            rw [three_ok] at h
            exact h
          · unfold BoxR Rc.cs
            rw [HRC.out, hset]
            simp only [adjT_len]
            rfl
          · unfold ARow
            rw [adjT_len, adjT_succ]
            have h := Row.kept HR4.out hgs (by
              cases ho : (Value.slice sa' (k + 1) sc').ownBlock with
              | none => exact .inl rfl
              | some j => exact .inr (fun e => by have := (Row.lt HR4.out j ho).1; simp only [Option.some.injEq] at e; omega))
            have e2 : adjV (adjT s k ++ [(((tk s (13 + 3 * k) 1 : Nat) : Int), ((tk s (14 + 3 * k) 2 : Nat) : Int))]) = adjV (adjT s k) ++ [.int .i64 (to : Int), .int .i64 (co : Int)] := by
              rw [HTO.out, HCO.out, show 14 + 3 * k = 13 + 3 * k + 1 from by omega]; simp [adjV]
            rw [e2]
            exact h)
        clear hcs hset hgs
        go_simp
        refine hK _ _ ?_
        clear hK K
        refine wpOrdB_nil ?_
        clear c5 f5
        go_wp2_with fail
        go_roundw
        case rel => first | exact HR.out | ((repeat apply Exists.intro); exact ⟨HR.out, rfl⟩)
        case measure => simp [intOf]; omega
      · obtain rfl : k = n := by omega
        have HDS := Lib.hid hds
        have HRO := Lib.hid hro
        have hbx' : BoxR q ⟨(t0 : Nat), t1, t2, (t3 : Nat), g, adjT s k⟩ sa sc wr := by rw [← HRC.out]; exact hbx
        have HBX := Lib.hid hbx'
        have hchk := check_any ⟨(t0 : Nat), t1, t2, (t3 : Nat), g, adjT s k⟩ sa sc wr (ARow.adjs hro) (by rw [adjT_len]; unfold maxLen; omega)
        unfold Rc.ag Rc.cs at hchk
        simp only [adjT_len] at hchk
        obtain ⟨er, her⟩ : ∃ er, er = (⟨(t0 : Nat), t1, t2, (t3 : Nat), g, adjT s k⟩ : Rc).err := ⟨_, rfl⟩
        rw [← her] at hchk
        have HCHK := Lib.hid hchk
        have HER := Lib.hid her
        have HAL := Lib.hid (adjT_len s k)
        have hcells := hbx'.cells
        simp only [adjT_len] at hcells
        obtain ⟨x0, x1, x2, x3, x4, x5⟩ := hcells
        obtain ⟨z0, z1, z2, z3, z4, z5⟩ := hds.res.cells
        have f0 := frozen_of_row _ _ 0 _ _ hds.res
        have f1 := frozen_of_row _ _ 1 _ _ hds.res
        have f2 := frozen_of_row _ _ 2 _ _ hds.res
        have f3 := frozen_of_row _ _ 3 _ _ hds.res
        have f4 := frozen_of_row _ _ 4 _ _ hds.res
        have f5 := frozen_of_row _ _ 5 _ _ hds.res
        simp only [Rc.zero, List.length_nil] at z0 z1 z2 z3 z4 z5
        obtain ⟨wh, hwh⟩ : ∃ wh : Bool, wh = (decide (13 + 3 * k ≤ s.size) && decide (13 + 3 * k = s.size)) := ⟨_, rfl⟩
        have hw9 : wh = decide (s.size = 13 + 3 * k) := by
          rw [hwh]
          by_cases h : s.size = 13 + 3 * k
          · rw [decide_eq_true h, decide_eq_true (show 13 + 3 * k ≤ s.size by omega), decide_eq_true h.symm]; rfl
          · rw [decide_eq_false h, decide_eq_false (show ¬ 13 + 3 * k = s.size by omega), Bool.and_false]
        have HWH := Lib.hid hwh
        have HW9 := Lib.hid hw9
        clear hds hbx hbx' hro hlt hwh hw9 hchk her
        go_wp2_with fail
        refine (wholec_any (W.heap.size + 1) s _ _ wr HDS.out.rd hs).mono ?_
        rintro e w ⟨rfl, rfl⟩
        rw [← HWH.out]
        cases wh
        · have hne : s.size ≠ 13 + 3 * k := of_decide_eq_false HW9.out.symm
          have HD := Lib.hid (show decOk s.data.toList = false from decOk_no (.inr (.inr (by rw [← Hn.out]; exact hne))))
          clear hne
          go_wp2_with fail
          (try simp only [Exit.inBlock, Exit.then])
          refine bodyPost_ret (v := .tuple #[(decR s.data.toList).ag none 0, .int .i64 (decE s.data.toList)]) ?_ rfl ⟨none, 0, rfl, ?_, ?_⟩
          · simp only [results, Tryz.results47]
            unfold decR decE
            rw [HD.out]
            go_simp
            rfl
          · unfold decR
            rw [HD.out]
            exact Row.nil_ _ _ _ _
          · repeat (with_reducible refine Below.setCell ?_ (by simp only; omega) _)
            exact HDS.out.bel
        · have h9 : s.size = 13 + 3 * k := of_decide_eq_true HW9.out.symm
          have hcd : (⟨(t0 : Nat), t1, t2, (t3 : Nat), g, adjT s k⟩ : Rc) = cand s.data.toList := by
            rw [← HRC.out, HG.out, Hti.out]
            have := rcT_in (s := s) (by rw [← Hn.out]; exact h9)
            rw [← Hn.out] at this
            exact this
          have hdo : decOk s.data.toList = (cand s.data.toList).chk := decOk_yes (by rw [← Hn.out]; exact h1) (by rw [← Hti.out]; exact h2) (by rw [← Hn.out]; exact h9)
          obtain ⟨my, hmy⟩ : ∃ my, my = (cand s.data.toList).chk := ⟨_, rfl⟩
          rw [← hmy] at hdo
          have hee : er = if my then 0 else 2 := by rw [HER.out, hcd, hmy]; rfl
          have HD := Lib.hid hdo
          have HCD := Lib.hid hcd
          have HEE := Lib.hid hee
          clear h9 hcd hdo hmy hee
          go_wp2_with fail
          refine HCHK.out.mono ?_
          rintro e V7 ⟨rfl, hb⟩
          have HDS7 := Lib.hid (HDS.out.later hb)
          have HBX7 := Lib.hid (HBX.out.later hb)
          have HRO7 := Lib.hid (Row.later HRO.out hb)
          clear hb x0 x1 x2 x3 x4 x5 z0 z1 z2 z3 z4 z5 f0 f1 f2 f3 f4 f5
          have hcells := HBX7.out.cells
          simp only [adjT_len] at hcells
          obtain ⟨x0, x1, x2, x3, x4, x5⟩ := hcells
          obtain ⟨z0, z1, z2, z3, z4, z5⟩ := HDS7.out.res.cells
          have f0 := frozen_of_row _ _ 0 _ _ HDS7.out.res
          have f1 := frozen_of_row _ _ 1 _ _ HDS7.out.res
          have f2 := frozen_of_row _ _ 2 _ _ HDS7.out.res
          have f3 := frozen_of_row _ _ 3 _ _ HDS7.out.res
          have f4 := frozen_of_row _ _ 4 _ _ HDS7.out.res
          have f5 := frozen_of_row _ _ 5 _ _ HDS7.out.res
          simp only [Rc.zero, List.length_nil] at z0 z1 z2 z3 z4 z5
          rw [HEE.out]
          cases my
          · go_wp2_with fail
            (try simp only [Exit.inBlock, Exit.then])
            refine bodyPost_ret (v := .tuple #[(decR s.data.toList).ag none 0, .int .i64 (decE s.data.toList)]) ?_ rfl ⟨none, 0, rfl, ?_, ?_⟩
            · simp only [results, Tryz.results47]
              unfold decR decE
              rw [HD.out]
              go_simp
              rfl
            · unfold decR
              rw [HD.out]
              exact Row.nil_ _ _ _ _
            · repeat (with_reducible refine Below.setCell ?_ (by simp only; omega) _)
              exact HDS7.out.bel
          · have HDR := Lib.hid (show decR s.data.toList = ⟨(t0 : Nat), t1, t2, (t3 : Nat), g, adjT s k⟩ by unfold decR; rw [HD.out, HCD.out]; rfl)
            have HDE := Lib.hid (show decE s.data.toList = 0 by unfold decE; rw [HD.out]; rfl)
            go_wp2_with fail
            (try simp only [Exit.inBlock, Exit.then])
            refine bodyPost_ret (v := .tuple #[(decR s.data.toList).ag sa sc, .int .i64 (decE s.data.toList)]) ?_ rfl ⟨sa, sc, rfl, ?_, ?_⟩
            · simp only [results, Tryz.results47]
              rw [HDR.out, HDE.out]
              unfold Rc.ag Rc.cs
              simp only [adjT_len]
              go_simp
            · rw [HDR.out]
              refine Row.more (?_ : Row _ (q + 1) _ _ _ _ _) (show W.heap.size ≤ q + 1 by omega)
              exact Row.setOther (Row.setOther (Row.setOther (Row.setOther (Row.setOther (Row.setOther HRO7.out _ _ (by simp only; omega)) _ _ (by simp only; omega)) _ _ (by simp only; omega)) _ _ (by simp only; omega)) _ _ (by simp only; omega)) _ _ (by simp only; omega)
            · repeat (with_reducible refine Below.setCell ?_ (by simp only; omega) _)
              exact HDS7.out.bel

end Go.Proofs.YtickjmkkgcfkhaaGreat
