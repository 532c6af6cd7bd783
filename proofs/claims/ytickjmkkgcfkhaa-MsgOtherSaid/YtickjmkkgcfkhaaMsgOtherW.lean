/- The walk of the law MsgOther. (Printed by mkmsother.py.) -/
import Derived.Test.YtickjmkkgcfkhaaMsU
import Derived.Test.YtickjmkkgcfkhaaMsX
import Derived.Test.YtickjmkkgcfkhaaRegion4
set_option linter.unusedSimpArgs false
set_option linter.unusedVariables false
set_option maxRecDepth 100000
namespace Go.Proofs.Ytickjmkkgcfkhaa
open Go.RowKit Go.ChangeShapes Go.WideShapes

theorem info_parts13 (p : Pt) : (Try.prog.info? 48).map (·.size) = some p.cs.toList.length := by
  show _ = some 13
  kernel_rfl
theorem wpOQ_store {P : Program} {ops : Array Oper} {Q : Exit → Act → World → Prop} {S : World → Prop} {i : Nat} {o : Oper} {r : OQ} {a : Act} {w : World} (ho : ops[i]? = some o) (hd : o.dst = none) (hw : Region.wanted o (yielded ops a.tmps) = true) (ty : TypeId) (p x : Operand) (hop : o.op = .store ty p x)
    (g : Nat) (hp : a.eval p = .pointer (some ⟨g, 0, none⟩)) (t : TypeId) (c c' : Array Value) (hx : a.eval x = .agg c') (hg : w.heap[g]? = some (.cells c t (0, 0))) (hi : (P.info? ty).map (·.size) = some c'.size) (hs : c.size = c'.size) (h1 : c'.all (·.oneCell') = true)
    (hS : S (w.setRow g c')) (h : wpOQ P ops Q S r a (w.setRow g c')) : wpOQ P ops Q S (.one i r) a w :=
  wpOQ_do ho hw fun K hK => by
    have hr : (execOp a.eval o).run P w = .ok .skip (w.setRow g c') := by
      unfold execOp
      simp only [hop, hp, hx, Instr.storeAt, Instr.sureAddr, Sem.run_bind, Sem.run_pure, Result.andThen_ok, run_storeVar_row w g t ty c c' hg hi hs h1]
    unfold Oper.wp
    rw [hr, Oper.upon_skip, hd]
    exact hK _ _ hS h
/-- While both messages are made. -/
structure OtS (W : World) (p q : Pt) (V : World) : Prop where
  bel : Below W.heap.size W V
  pp : V.heap[W.heap.size]? = some (.cells p.cs 48 (0, 0))
  pq : V.heap[W.heap.size + 1]? = some (.cells q.cs 48 (0, 0))
theorem blk {g : Nat} {o : Obj} {V X : World} (h : V.heap[g]? = some o) (hb : Below V.heap.size V X) : X.heap[g]? = some o := (hb.block g (Array.getElem?_eq_some_iff.1 h).1).trans h
theorem OtS.later {W V X : World} {p q : Pt} (h : OtS W p q V) (hb : Below V.heap.size V X) : OtS W p q X := ⟨h.bel.trans (hb.mono h.bel.size), blk h.pp hb, blk h.pq hb⟩
theorem OtS.setRow {W V : World} {p q : Pt} {g : Nat} {c : Array Value} (h : OtS W p q V) (hg : W.heap.size + 1 < g) : OtS W p q (V.setRow g c) :=
  ⟨below_setRow h.bel (by omega), (setRow_other V g _ c (by omega)).trans h.pp, (setRow_other V g _ c (by omega)).trans h.pq⟩
/-- Both messages in memory. -/
structure OtR (W : World) (M N : Ms) (g1 g2 : Nat) (sa : Option Addr) (sc : Nat) (ta : Option Addr) (tc : Nat) (V : World) : Prop where
  bel : Below W.heap.size W V
  b1 : BoxM g1 M sa sc V
  b2 : BoxM g2 N ta tc V
  r1 : ∃ B, ARow V B sa sc M.rc.adjs
  r2 : ∃ B, ARow V B ta tc N.rc.adjs
  n1 : ∀ k, (Value.slice sa M.rc.adjs.length sc).ownBlock = some k → k ≠ g1
  n2 : ∀ k, (Value.slice ta N.rc.adjs.length tc).ownBlock = some k → k ≠ g1
  lo : W.heap.size ≤ g1
theorem ot_end {W Z : World} {M N : Ms} {g1 g2 B C : Nat} {sa ta : Option Addr} {sc tc : Nat} (hb : Below W.heap.size W Z) (h1 : Z.heap[g1]? = some (.cells #[.int .i64 0, .int .i64 0, .int .u32 0, .int .u32 0, .int .i64 0, .bool false, .slice none 0 0, .int .i64 0, .int .u32 0, .int .u32 0, .int .i64 0, .int .i64 0, .int .u32 0, .int .i64 0, .int .i64 0, .int .i64 0, .int .u32 0, .int .u64 0, .int .u64 0, .int .u64 0, .int .u64 0, .int .i64 0, .int .i64 0, .int .i64 0, .int .u32 0, .int .u32 0, .int .u8 0, .int .i64 0, .int .u32 0, .int .i64 0, .int .u32 0, .int .u32 0] 38 (0, 0))) (h2 : Z.heap[g2]? = some (.cells #[.int .i64 0, .int .i64 0, .int .u32 0, .int .u32 0, .int .i64 0, .bool false, .slice none 0 0, .int .i64 0, .int .u32 0, .int .u32 0, .int .i64 0, .int .i64 0, .int .u32 0, .int .i64 0, .int .i64 0, .int .i64 0, .int .u32 0, .int .u64 0, .int .u64 0, .int .u64 0, .int .u64 0, .int .i64 0, .int .i64 0, .int .i64 0, .int .u32 0, .int .u32 0, .int .u8 0, .int .i64 0, .int .u32 0, .int .i64 0, .int .u32 0, .int .u32 0] 38 (0, 0))) (hr1 : ARow Z B sa sc M.rc.adjs) (hr2 : ARow Z C ta tc N.rc.adjs)
    (n11 : ∀ k, (Value.slice sa M.rc.adjs.length sc).ownBlock = some k → k ≠ g1) (n12 : ∀ k, (Value.slice sa M.rc.adjs.length sc).ownBlock = some k → k ≠ g2) (n21 : ∀ k, (Value.slice ta N.rc.adjs.length tc).ownBlock = some k → k ≠ g1) (n22 : ∀ k, (Value.slice ta N.rc.adjs.length tc).ownBlock = some k → k ≠ g2) (hg : g1 ≠ g2) (l1 : W.heap.size + 1 < g1) (l2 : W.heap.size + 1 < g2) :
    OtR W M N g1 g2 sa sc ta tc ((Z.setRow g1 (M.cs sa sc)).setRow g2 (N.cs ta tc)) := by
  refine ⟨below_setRow (below_setRow hb (by omega)) (by omega), (setRow_other _ g2 g1 _ hg).trans (setRow_heap _ _ _ _ _ _ h1), setRow_heap _ _ _ _ _ _ ((setRow_other _ g1 g2 _ (fun e => hg e.symm)).trans h2), ⟨B, ?_⟩, ⟨C, ?_⟩, n11, n21, by omega⟩
  · exact hr1.same fun k hk => (setRow_other _ g2 k _ (n12 k hk)).trans (setRow_other _ g1 k _ (n11 k hk))
  · exact hr2.same fun k hk => (setRow_other _ g2 k _ (n22 k hk)).trans (setRow_other _ g1 k _ (n21 k hk))
theorem oth1 {M N : Ms} (hM : M.chk = true) (hN : N.chk = true) (hk : N.kd = 1) (hne : M.kd ≠ N.kd) : ({ M with rc := N.rc } : Ms).chk = false := by
  have hz : ({ M with rc := N.rc } : Ms).zr = false := by
    obtain ⟨_, _, hm⟩ := chk_kd hN
    unfold Ms.may at hm
    rw [hk] at hm
    rw [if_pos rfl] at hm
    have h : N.rc.nul = false := by
      rw [← Bool.not_eq_true]
      intro h
      rw [nul_is h] at hm
      revert hm; decide
    exact h
  obtain ⟨h, _, _⟩ := chk_kd hM
  have hf : ({ M with rc := N.rc } : Ms).fit = false := by
    unfold Ms.fit
    rw [hz, show ({ M with rc := N.rc } : Ms).kd = M.kd from rfl]
    rcases h with h | h | h | h | h <;> rw [h] <;> first | (exfalso; omega) | simp
  unfold Ms.chk
  rw [hf]; simp
theorem oth2 {M N : Ms} (hM : M.chk = true) (hN : N.chk = true) (hk : N.kd = 2) (hne : M.kd ≠ N.kd) : ({ M with st := N.st } : Ms).chk = false := by
  have hz : ({ M with st := N.st } : Ms).zs = false := by
    obtain ⟨_, _, hm⟩ := chk_kd hN
    unfold Ms.may at hm
    rw [hk] at hm
    rw [if_neg (show ¬ (2 : Int) = 1 by decide), if_pos rfl] at hm
    refine decide_eq_false fun h => ?_
    rw [show N.st = ⟨0, 0, 0⟩ from h] at hm
    revert hm; decide
  obtain ⟨h, _, _⟩ := chk_kd hM
  have hf : ({ M with st := N.st } : Ms).fit = false := by
    unfold Ms.fit
    rw [hz, show ({ M with st := N.st } : Ms).kd = M.kd from rfl]
    rcases h with h | h | h | h | h <;> rw [h] <;> first | (exfalso; omega) | simp
  unfold Ms.chk
  rw [hf]; simp
theorem oth3 {M N : Ms} (hM : M.chk = true) (hN : N.chk = true) (hk : N.kd = 3) (hne : M.kd ≠ N.kd) : ({ M with hd := N.hd } : Ms).chk = false := by
  have hz : ({ M with hd := N.hd } : Ms).zh = false := by
    obtain ⟨_, _, hm⟩ := chk_kd hN
    unfold Ms.may at hm
    rw [hk] at hm
    rw [if_neg (show ¬ (3 : Int) = 1 by decide), if_neg (show ¬ (3 : Int) = 2 by decide), if_pos rfl] at hm
    refine decide_eq_false fun h => ?_
    rw [show N.hd = Hd.zero from h] at hm
    revert hm; decide
  obtain ⟨h, _, _⟩ := chk_kd hM
  have hf : ({ M with hd := N.hd } : Ms).fit = false := by
    unfold Ms.fit
    rw [hz, show ({ M with hd := N.hd } : Ms).kd = M.kd from rfl]
    rcases h with h | h | h | h | h <;> rw [h] <;> first | (exfalso; omega) | simp
  unfold Ms.chk
  rw [hf]; simp
theorem oth4 {M N : Ms} (hM : M.chk = true) (hN : N.chk = true) (hk : N.kd = 4) (hne : M.kd ≠ N.kd) : ({ M with wi := N.wi } : Ms).chk = false := by
  have hz : ({ M with wi := N.wi } : Ms).zw = false := by
    obtain ⟨_, _, hm⟩ := chk_kd hN
    unfold Ms.may at hm
    rw [hk] at hm
    rw [if_neg (show ¬ (4 : Int) = 1 by decide), if_neg (show ¬ (4 : Int) = 2 by decide), if_neg (show ¬ (4 : Int) = 3 by decide), if_pos rfl] at hm
    refine decide_eq_false fun h => ?_
    rw [show N.wi = Wi.zero from h] at hm
    rw [Bool.and_eq_true] at hm
    have := hm.2
    revert this; decide
  obtain ⟨h, _, _⟩ := chk_kd hM
  have hf : ({ M with wi := N.wi } : Ms).fit = false := by
    unfold Ms.fit
    rw [hz, show ({ M with wi := N.wi } : Ms).kd = M.kd from rfl]
    rcases h with h | h | h | h | h <;> rw [h] <;> first | (exfalso; omega) | simp
  unfold Ms.chk
  rw [hf]; simp
theorem oth5 {M N : Ms} (hM : M.chk = true) (hN : N.chk = true) (hk : N.kd = 5) (hne : M.kd ≠ N.kd) : ({ M with ak := N.ak } : Ms).chk = false := by
  have hz : ({ M with ak := N.ak } : Ms).za = false := by
    obtain ⟨_, _, hm⟩ := chk_kd hN
    unfold Ms.may at hm
    rw [hk] at hm
    rw [if_neg (show ¬ (5 : Int) = 1 by decide), if_neg (show ¬ (5 : Int) = 2 by decide), if_neg (show ¬ (5 : Int) = 3 by decide), if_neg (show ¬ (5 : Int) = 4 by decide)] at hm
    refine decide_eq_false fun h => ?_
    rw [show N.ak = Ak.zero from h] at hm
    rw [Bool.and_eq_true] at hm
    have := hm.2
    revert this; decide
  obtain ⟨h, _, _⟩ := chk_kd hM
  have hf : ({ M with ak := N.ak } : Ms).fit = false := by
    unfold Ms.fit
    rw [hz, show ({ M with ak := N.ak } : Ms).kd = M.kd from rfl]
    rcases h with h | h | h | h | h <;> rw [h] <;> first | (exfalso; omega) | simp
  unfold Ms.chk
  rw [hf]; simp
theorem adj_le (M : Ms) (hmc : M.chk = true) : M.rc.adjs.length ≤ maxLen := by
  rcases Nat.lt_or_ge 16 M.rc.adjs.length with hh | hh
  · exfalso
    obtain ⟨hk, hf, hy⟩ := chk_kd hmc
    unfold Ms.fit at hf
    unfold Ms.may at hy
    split at hf
    · rename_i h1
      rw [if_pos h1] at hy
      simp only [Rc.chk, Bool.and_eq_true, decide_eq_true_eq] at hy
      omega
    · have hz : M.zr = true := by
        split at hf
        · simp only [Bool.and_eq_true] at hf; exact hf.1.1.1.1
        · split at hf
          · simp only [Bool.and_eq_true] at hf; exact hf.1.1.1.1
          · split at hf
            · simp only [Bool.and_eq_true] at hf; exact hf.1.1.1
            · simp only [Bool.and_eq_true] at hf; exact hf.1.1.1
      have := nul_is hz
      rw [this] at hh
      simp [Rc.zero] at hh
  · unfold maxLen; omega

set_option maxHeartbeats 12800000 in
theorem msgOther_walk (p q : Pt) (W : World) (hp : p.ok) (hq : q.ok) : Calls Try.prog 4 #[p.ag, q.ag] W fun e W' => e = .returned (.bool true) ∧ Below W.heap.size W W' := by
  obtain ⟨W1, hW1⟩ : ∃ W1, W1 = (W.alloc (.cells p.cs 48)).alloc (.cells q.cs 48) := ⟨_, rfl⟩
  have hb1 : Below W.heap.size W W1 := by rw [hW1]; exact ((Below.refl _ _).alloc (Nat.le_refl _) _).alloc (by rw [World.size_alloc]; omega) _
  have HS00 := Lib.hid (show OtS W p q W1 from ⟨hb1, by rw [hW1]; exact heap_alloc2_old _ _ _, by rw [hW1]; exact heap_alloc2_new _ _ _⟩)
  have HPIp := Lib.hid (info_parts13 p)
  have HPIq := Lib.hid (info_parts13 q)
  have HOp := Lib.hid (fun V => lof_any p V hp)
  have HOq := Lib.hid (fun V => lof_any q V hq)
  have HMO := Lib.hid (ofM_ok p hp)
  have HMC := Lib.hid (ofM_chk p hp)
  have HNO := Lib.hid (ofM_ok q hq)
  have HNC := Lib.hid (ofM_chk q hq)
  obtain ⟨M, hM⟩ : ∃ M, M = ofM p := ⟨_, rfl⟩
  obtain ⟨N, hN⟩ : ∃ N, N = ofM q := ⟨_, rfl⟩
  rw [← hM] at HOp HMO HMC
  rw [← hN] at HOq HNO HNC
  have HW1 := Lib.hid hW1
  clear hW1 hb1 hM hN hp hq
  go_enter Try.func4, Try.ntmps4
  unfold Pt.ag at *
  go_upto_region 1 with fail
  rw [← HW1.out]
  go_cut [5, 6] (fun s5 s6 wx => ∃ g1 g2 sa sc ta tc, s5 = .pointer (some ⟨g1, 0, none⟩) ∧ s6 = .pointer (some ⟨g2, 0, none⟩) ∧ OtR W M N g1 g2 sa sc ta tc wx)
  case first =>
    obtain ⟨Z0, hU⟩ : ∃ X, X = W1.drew := ⟨_, rfl⟩
    have HS0 := Lib.hid (show OtS W p q Z0 by rw [hU]; exact HS00.out.later (drew_below _))
    refine wp_region_tree3 (.look 0 (.look 2 (.three 1 (.three 3 (.two 4 (.one 5 (.one 6 (.one 7 .nil))) 5 (.one 4 (.one 6 (.one 7 .nil)))) 4 (.two 3 (.one 5 (.one 6 (.one 7 .nil))) 5 (.one 3 (.one 6 (.one 7 .nil)))) 5 (.two 3 (.one 4 (.one 6 (.one 7 .nil))) 4 (.one 3 (.one 6 (.one 7 .nil))))) 4 (.two 1 (.two 3 (.one 5 (.one 6 (.one 7 .nil))) 5 (.one 3 (.one 6 (.one 7 .nil)))) 5 (.one 1 (.one 3 (.one 6 (.one 7 .nil))))) 5 (.two 1 (.two 3 (.one 4 (.one 6 (.one 7 .nil))) 4 (.one 3 (.one 6 (.one 7 .nil)))) 4 (.one 1 (.one 3 (.one 6 (.one 7 .nil)))))))) (OtS W p q) (by kernel_rfl) (by kernel_rfl) (by decide) (by kernel_rfl) (fun d _ _ _ _ h => by cases d <;> first | exact h | exact h.later (drew_below _)) (by rw [← hU]; exact HS0.out) ?_
    rw [← hU]
    clear hU
    ((apply wpOQ_take rfl rfl (by kernel_rfl); (intro V hV; exact run_load_cs _ _ 48 (.tmp 2) rfl ⟨W.heap.size, 0, none⟩ rfl p.cs.toList _ (block_cells hV.pp) Try.underlying48 rfl HPIp.out)); (try simp only [List.setIfInBounds_toArray, List.set_cons_succ, List.set_cons_zero])); rw [Array.toArray_toList]
    ((apply wpOQ_take rfl rfl (by kernel_rfl); (intro V hV; exact run_load_cs _ _ 48 (.tmp 3) rfl ⟨W.heap.size + 1, 0, none⟩ rfl q.cs.toList _ (block_cells hV.pq) Try.underlying48 rfl HPIq.out)); (try simp only [List.setIfInBounds_toArray, List.set_cons_succ, List.set_cons_zero])); rw [Array.toArray_toList]
    apply wpOQ_three
    · skip
      apply wpOQ_do rfl (by kernel_rfl)
      intro K hK
      go_simp
      refine (HOp.out Z0).mono ?_
      rintro e Z1 ⟨sa, sc, rfl, har, hb⟩
      unfold Ms.ag
      have HS1 := Lib.hid (HS0.out.later hb)
      have HRp1 := Lib.hid har
      refine hK _ _ HS1.out ?_
      clear hK K hb har
      apply wpOQ_three
      · skip
        apply wpOQ_do rfl (by kernel_rfl)
        intro K hK
        go_simp
        refine (HOq.out Z1).mono ?_
        rintro e Z2 ⟨ta, tc, rfl, har, hb⟩
        unfold Ms.ag
        have HS2 := Lib.hid (HS1.out.later hb)
        have HRp2 := Lib.hid (Row.later HRp1.out hb)
        have HRq2 := Lib.hid har
        refine hK _ _ HS2.out ?_
        clear hK K hb har
        apply wpOQ_two
        · skip
          apply wpOQ_do rfl (by kernel_rfl)
          intro K hK
          go_simp
          obtain ⟨ga, hg⟩ : ∃ g, g = Z2.heap.size := ⟨_, rfl⟩
          obtain ⟨Z3, hZ⟩ : ∃ X, X = Z2.alloc (.cells #[.int .i64 0, .int .i64 0, .int .u32 0, .int .u32 0, .int .i64 0, .bool false, .slice none 0 0, .int .i64 0, .int .u32 0, .int .u32 0, .int .i64 0, .int .i64 0, .int .u32 0, .int .i64 0, .int .i64 0, .int .i64 0, .int .u32 0, .int .u64 0, .int .u64 0, .int .u64 0, .int .u64 0, .int .i64 0, .int .i64 0, .int .i64 0, .int .u32 0, .int .u32 0, .int .u8 0, .int .i64 0, .int .u32 0, .int .i64 0, .int .u32 0, .int .u32 0] 38) := ⟨_, rfl⟩
          have hb : Below Z2.heap.size Z2 Z3 := by rw [hZ]; exact (Below.refl _ _).alloc (Nat.le_refl _) _
          have HS3 := Lib.hid (HS2.out.later hb)
          have HRp3 := Lib.hid (Row.later HRp2.out hb)
          have HRq3 := Lib.hid (Row.later HRq2.out hb)
          have HGa3 := Lib.hid (show Z3.heap[ga]? = some (.cells #[.int .i64 0, .int .i64 0, .int .u32 0, .int .u32 0, .int .i64 0, .bool false, .slice none 0 0, .int .i64 0, .int .u32 0, .int .u32 0, .int .i64 0, .int .i64 0, .int .u32 0, .int .i64 0, .int .i64 0, .int .i64 0, .int .u32 0, .int .u64 0, .int .u64 0, .int .u64 0, .int .u64 0, .int .i64 0, .int .i64 0, .int .i64 0, .int .u32 0, .int .u32 0, .int .u8 0, .int .i64 0, .int .u32 0, .int .i64 0, .int .u32 0, .int .u32 0] 38 (0, 0)) by rw [hZ, hg]; exact heap_alloc_new _ _)
          have HLa := Lib.hid (show W.heap.size + 1 < ga by
            have h2 := (Array.getElem?_eq_some_iff.1 HS2.out.pq).1
            omega)
          have HNpa := Lib.hid (show ∀ k, (Value.slice sa M.rc.adjs.length sc).ownBlock = some k → k ≠ ga from fun k hk e => by
            have h1 := (Row.lt HRp2.out k hk).2
            omega)
          have HNqa := Lib.hid (show ∀ k, (Value.slice ta N.rc.adjs.length tc).ownBlock = some k → k ≠ ga from fun k hk e => by
            have h1 := (Row.lt HRq2.out k hk).2
            omega)
          rw [← hZ, ← hg]
          refine hK _ _ HS3.out ?_
          clear hK K hb hZ hg
          apply wpOQ_do rfl (by kernel_rfl)
          intro K hK
          go_simp
          obtain ⟨gb, hg⟩ : ∃ g, g = Z3.heap.size := ⟨_, rfl⟩
          obtain ⟨Z4, hZ⟩ : ∃ X, X = Z3.alloc (.cells #[.int .i64 0, .int .i64 0, .int .u32 0, .int .u32 0, .int .i64 0, .bool false, .slice none 0 0, .int .i64 0, .int .u32 0, .int .u32 0, .int .i64 0, .int .i64 0, .int .u32 0, .int .i64 0, .int .i64 0, .int .i64 0, .int .u32 0, .int .u64 0, .int .u64 0, .int .u64 0, .int .u64 0, .int .i64 0, .int .i64 0, .int .i64 0, .int .u32 0, .int .u32 0, .int .u8 0, .int .i64 0, .int .u32 0, .int .i64 0, .int .u32 0, .int .u32 0] 38) := ⟨_, rfl⟩
          have hb : Below Z3.heap.size Z3 Z4 := by rw [hZ]; exact (Below.refl _ _).alloc (Nat.le_refl _) _
          have HS4 := Lib.hid (HS3.out.later hb)
          have HRp4 := Lib.hid (Row.later HRp3.out hb)
          have HRq4 := Lib.hid (Row.later HRq3.out hb)
          have HGa4 := Lib.hid (blk HGa3.out hb)
          have HGb4 := Lib.hid (show Z4.heap[gb]? = some (.cells #[.int .i64 0, .int .i64 0, .int .u32 0, .int .u32 0, .int .i64 0, .bool false, .slice none 0 0, .int .i64 0, .int .u32 0, .int .u32 0, .int .i64 0, .int .i64 0, .int .u32 0, .int .i64 0, .int .i64 0, .int .i64 0, .int .u32 0, .int .u64 0, .int .u64 0, .int .u64 0, .int .u64 0, .int .i64 0, .int .i64 0, .int .i64 0, .int .u32 0, .int .u32 0, .int .u8 0, .int .i64 0, .int .u32 0, .int .i64 0, .int .u32 0, .int .u32 0] 38 (0, 0)) by rw [hZ, hg]; exact heap_alloc_new _ _)
          have HLb := Lib.hid (show W.heap.size + 1 < gb by
            have h2 := (Array.getElem?_eq_some_iff.1 HS3.out.pq).1
            omega)
          have HNpb := Lib.hid (show ∀ k, (Value.slice sa M.rc.adjs.length sc).ownBlock = some k → k ≠ gb from fun k hk e => by
            have h1 := (Row.lt HRp3.out k hk).2
            omega)
          have HNqb := Lib.hid (show ∀ k, (Value.slice ta N.rc.adjs.length tc).ownBlock = some k → k ≠ gb from fun k hk e => by
            have h1 := (Row.lt HRq3.out k hk).2
            omega)
          have HAB := Lib.hid (show ga ≠ gb from fun e => by
            have h2 := (Array.getElem?_eq_some_iff.1 HGa3.out).1
            omega)
          rw [← hZ, ← hg]
          refine hK _ _ HS4.out ?_
          clear hK K hb hZ hg
          refine wpOQ_store rfl rfl (by kernel_rfl) 38 (.tmp 5) (.tmp 10) rfl ga rfl 38 _ (M.cs sa sc) rfl HGa4.out (info_msg' M sa sc) rfl (cs_one M sa sc) (HS4.out.setRow HLa.out) ?_
          refine wpOQ_store rfl rfl (by kernel_rfl) 38 (.tmp 6) (.tmp 12) rfl gb rfl 38 _ (N.cs ta tc) rfl ((setRow_other _ ga gb _ (fun e => HAB.out e.symm)).trans HGb4.out) (info_msg' N ta tc) rfl (cs_one N ta tc) ((HS4.out.setRow HLa.out).setRow HLb.out) ?_
          refine wpOQ_nil ?_
          go_wp2_with fail
          go_meet
          exact ⟨ga, gb, sa, sc, ta, tc, rfl, rfl, ot_end HS4.out.bel HGa4.out HGb4.out HRp4.out HRq4.out HNpa.out HNpb.out HNqa.out HNqb.out HAB.out HLa.out HLb.out⟩
        · skip
          apply wpOQ_do rfl (by kernel_rfl)
          intro K hK
          go_simp
          obtain ⟨gb, hg⟩ : ∃ g, g = Z2.heap.size := ⟨_, rfl⟩
          obtain ⟨Z3, hZ⟩ : ∃ X, X = Z2.alloc (.cells #[.int .i64 0, .int .i64 0, .int .u32 0, .int .u32 0, .int .i64 0, .bool false, .slice none 0 0, .int .i64 0, .int .u32 0, .int .u32 0, .int .i64 0, .int .i64 0, .int .u32 0, .int .i64 0, .int .i64 0, .int .i64 0, .int .u32 0, .int .u64 0, .int .u64 0, .int .u64 0, .int .u64 0, .int .i64 0, .int .i64 0, .int .i64 0, .int .u32 0, .int .u32 0, .int .u8 0, .int .i64 0, .int .u32 0, .int .i64 0, .int .u32 0, .int .u32 0] 38) := ⟨_, rfl⟩
          have hb : Below Z2.heap.size Z2 Z3 := by rw [hZ]; exact (Below.refl _ _).alloc (Nat.le_refl _) _
          have HS3 := Lib.hid (HS2.out.later hb)
          have HRp3 := Lib.hid (Row.later HRp2.out hb)
          have HRq3 := Lib.hid (Row.later HRq2.out hb)
          have HGb3 := Lib.hid (show Z3.heap[gb]? = some (.cells #[.int .i64 0, .int .i64 0, .int .u32 0, .int .u32 0, .int .i64 0, .bool false, .slice none 0 0, .int .i64 0, .int .u32 0, .int .u32 0, .int .i64 0, .int .i64 0, .int .u32 0, .int .i64 0, .int .i64 0, .int .i64 0, .int .u32 0, .int .u64 0, .int .u64 0, .int .u64 0, .int .u64 0, .int .i64 0, .int .i64 0, .int .i64 0, .int .u32 0, .int .u32 0, .int .u8 0, .int .i64 0, .int .u32 0, .int .i64 0, .int .u32 0, .int .u32 0] 38 (0, 0)) by rw [hZ, hg]; exact heap_alloc_new _ _)
          have HLb := Lib.hid (show W.heap.size + 1 < gb by
            have h2 := (Array.getElem?_eq_some_iff.1 HS2.out.pq).1
            omega)
          have HNpb := Lib.hid (show ∀ k, (Value.slice sa M.rc.adjs.length sc).ownBlock = some k → k ≠ gb from fun k hk e => by
            have h1 := (Row.lt HRp2.out k hk).2
            omega)
          have HNqb := Lib.hid (show ∀ k, (Value.slice ta N.rc.adjs.length tc).ownBlock = some k → k ≠ gb from fun k hk e => by
            have h1 := (Row.lt HRq2.out k hk).2
            omega)
          rw [← hZ, ← hg]
          refine hK _ _ HS3.out ?_
          clear hK K hb hZ hg
          apply wpOQ_do rfl (by kernel_rfl)
          intro K hK
          go_simp
          obtain ⟨ga, hg⟩ : ∃ g, g = Z3.heap.size := ⟨_, rfl⟩
          obtain ⟨Z4, hZ⟩ : ∃ X, X = Z3.alloc (.cells #[.int .i64 0, .int .i64 0, .int .u32 0, .int .u32 0, .int .i64 0, .bool false, .slice none 0 0, .int .i64 0, .int .u32 0, .int .u32 0, .int .i64 0, .int .i64 0, .int .u32 0, .int .i64 0, .int .i64 0, .int .i64 0, .int .u32 0, .int .u64 0, .int .u64 0, .int .u64 0, .int .u64 0, .int .i64 0, .int .i64 0, .int .i64 0, .int .u32 0, .int .u32 0, .int .u8 0, .int .i64 0, .int .u32 0, .int .i64 0, .int .u32 0, .int .u32 0] 38) := ⟨_, rfl⟩
          have hb : Below Z3.heap.size Z3 Z4 := by rw [hZ]; exact (Below.refl _ _).alloc (Nat.le_refl _) _
          have HS4 := Lib.hid (HS3.out.later hb)
          have HRp4 := Lib.hid (Row.later HRp3.out hb)
          have HRq4 := Lib.hid (Row.later HRq3.out hb)
          have HGb4 := Lib.hid (blk HGb3.out hb)
          have HGa4 := Lib.hid (show Z4.heap[ga]? = some (.cells #[.int .i64 0, .int .i64 0, .int .u32 0, .int .u32 0, .int .i64 0, .bool false, .slice none 0 0, .int .i64 0, .int .u32 0, .int .u32 0, .int .i64 0, .int .i64 0, .int .u32 0, .int .i64 0, .int .i64 0, .int .i64 0, .int .u32 0, .int .u64 0, .int .u64 0, .int .u64 0, .int .u64 0, .int .i64 0, .int .i64 0, .int .i64 0, .int .u32 0, .int .u32 0, .int .u8 0, .int .i64 0, .int .u32 0, .int .i64 0, .int .u32 0, .int .u32 0] 38 (0, 0)) by rw [hZ, hg]; exact heap_alloc_new _ _)
          have HLa := Lib.hid (show W.heap.size + 1 < ga by
            have h2 := (Array.getElem?_eq_some_iff.1 HS3.out.pq).1
            omega)
          have HNpa := Lib.hid (show ∀ k, (Value.slice sa M.rc.adjs.length sc).ownBlock = some k → k ≠ ga from fun k hk e => by
            have h1 := (Row.lt HRp3.out k hk).2
            omega)
          have HNqa := Lib.hid (show ∀ k, (Value.slice ta N.rc.adjs.length tc).ownBlock = some k → k ≠ ga from fun k hk e => by
            have h1 := (Row.lt HRq3.out k hk).2
            omega)
          have HAB := Lib.hid (show ga ≠ gb from fun e => by
            have h2 := (Array.getElem?_eq_some_iff.1 HGb3.out).1
            omega)
          rw [← hZ, ← hg]
          refine hK _ _ HS4.out ?_
          clear hK K hb hZ hg
          refine wpOQ_store rfl rfl (by kernel_rfl) 38 (.tmp 5) (.tmp 10) rfl ga rfl 38 _ (M.cs sa sc) rfl HGa4.out (info_msg' M sa sc) rfl (cs_one M sa sc) (HS4.out.setRow HLa.out) ?_
          refine wpOQ_store rfl rfl (by kernel_rfl) 38 (.tmp 6) (.tmp 12) rfl gb rfl 38 _ (N.cs ta tc) rfl ((setRow_other _ ga gb _ (fun e => HAB.out e.symm)).trans HGb4.out) (info_msg' N ta tc) rfl (cs_one N ta tc) ((HS4.out.setRow HLa.out).setRow HLb.out) ?_
          refine wpOQ_nil ?_
          go_wp2_with fail
          go_meet
          exact ⟨ga, gb, sa, sc, ta, tc, rfl, rfl, ot_end HS4.out.bel HGa4.out HGb4.out HRp4.out HRq4.out HNpa.out HNpb.out HNqa.out HNqb.out HAB.out HLa.out HLb.out⟩
      · skip
        apply wpOQ_do rfl (by kernel_rfl)
        intro K hK
        go_simp
        obtain ⟨ga, hg⟩ : ∃ g, g = Z1.heap.size := ⟨_, rfl⟩
        obtain ⟨Z2, hZ⟩ : ∃ X, X = Z1.alloc (.cells #[.int .i64 0, .int .i64 0, .int .u32 0, .int .u32 0, .int .i64 0, .bool false, .slice none 0 0, .int .i64 0, .int .u32 0, .int .u32 0, .int .i64 0, .int .i64 0, .int .u32 0, .int .i64 0, .int .i64 0, .int .i64 0, .int .u32 0, .int .u64 0, .int .u64 0, .int .u64 0, .int .u64 0, .int .i64 0, .int .i64 0, .int .i64 0, .int .u32 0, .int .u32 0, .int .u8 0, .int .i64 0, .int .u32 0, .int .i64 0, .int .u32 0, .int .u32 0] 38) := ⟨_, rfl⟩
        have hb : Below Z1.heap.size Z1 Z2 := by rw [hZ]; exact (Below.refl _ _).alloc (Nat.le_refl _) _
        have HS2 := Lib.hid (HS1.out.later hb)
        have HRp2 := Lib.hid (Row.later HRp1.out hb)
        have HGa2 := Lib.hid (show Z2.heap[ga]? = some (.cells #[.int .i64 0, .int .i64 0, .int .u32 0, .int .u32 0, .int .i64 0, .bool false, .slice none 0 0, .int .i64 0, .int .u32 0, .int .u32 0, .int .i64 0, .int .i64 0, .int .u32 0, .int .i64 0, .int .i64 0, .int .i64 0, .int .u32 0, .int .u64 0, .int .u64 0, .int .u64 0, .int .u64 0, .int .i64 0, .int .i64 0, .int .i64 0, .int .u32 0, .int .u32 0, .int .u8 0, .int .i64 0, .int .u32 0, .int .i64 0, .int .u32 0, .int .u32 0] 38 (0, 0)) by rw [hZ, hg]; exact heap_alloc_new _ _)
        have HLa := Lib.hid (show W.heap.size + 1 < ga by
          have h2 := (Array.getElem?_eq_some_iff.1 HS1.out.pq).1
          omega)
        have HNpa := Lib.hid (show ∀ k, (Value.slice sa M.rc.adjs.length sc).ownBlock = some k → k ≠ ga from fun k hk e => by
          have h1 := (Row.lt HRp1.out k hk).2
          omega)
        rw [← hZ, ← hg]
        refine hK _ _ HS2.out ?_
        clear hK K hb hZ hg
        apply wpOQ_two
        · skip
          apply wpOQ_do rfl (by kernel_rfl)
          intro K hK
          go_simp
          refine (HOq.out Z2).mono ?_
          rintro e Z3 ⟨ta, tc, rfl, har, hb⟩
          unfold Ms.ag
          have HS3 := Lib.hid (HS2.out.later hb)
          have HRp3 := Lib.hid (Row.later HRp2.out hb)
          have HGa3 := Lib.hid (blk HGa2.out hb)
          have HRq3 := Lib.hid har
          have HNqa := Lib.hid (show ∀ k, (Value.slice ta N.rc.adjs.length tc).ownBlock = some k → k ≠ ga from fun k hk e => by
            have h1 := (Row.lt har k hk).1
            have h2 := (Array.getElem?_eq_some_iff.1 HGa2.out).1
            omega)
          refine hK _ _ HS3.out ?_
          clear hK K hb har
          apply wpOQ_do rfl (by kernel_rfl)
          intro K hK
          go_simp
          obtain ⟨gb, hg⟩ : ∃ g, g = Z3.heap.size := ⟨_, rfl⟩
          obtain ⟨Z4, hZ⟩ : ∃ X, X = Z3.alloc (.cells #[.int .i64 0, .int .i64 0, .int .u32 0, .int .u32 0, .int .i64 0, .bool false, .slice none 0 0, .int .i64 0, .int .u32 0, .int .u32 0, .int .i64 0, .int .i64 0, .int .u32 0, .int .i64 0, .int .i64 0, .int .i64 0, .int .u32 0, .int .u64 0, .int .u64 0, .int .u64 0, .int .u64 0, .int .i64 0, .int .i64 0, .int .i64 0, .int .u32 0, .int .u32 0, .int .u8 0, .int .i64 0, .int .u32 0, .int .i64 0, .int .u32 0, .int .u32 0] 38) := ⟨_, rfl⟩
          have hb : Below Z3.heap.size Z3 Z4 := by rw [hZ]; exact (Below.refl _ _).alloc (Nat.le_refl _) _
          have HS4 := Lib.hid (HS3.out.later hb)
          have HRp4 := Lib.hid (Row.later HRp3.out hb)
          have HRq4 := Lib.hid (Row.later HRq3.out hb)
          have HGa4 := Lib.hid (blk HGa3.out hb)
          have HGb4 := Lib.hid (show Z4.heap[gb]? = some (.cells #[.int .i64 0, .int .i64 0, .int .u32 0, .int .u32 0, .int .i64 0, .bool false, .slice none 0 0, .int .i64 0, .int .u32 0, .int .u32 0, .int .i64 0, .int .i64 0, .int .u32 0, .int .i64 0, .int .i64 0, .int .i64 0, .int .u32 0, .int .u64 0, .int .u64 0, .int .u64 0, .int .u64 0, .int .i64 0, .int .i64 0, .int .i64 0, .int .u32 0, .int .u32 0, .int .u8 0, .int .i64 0, .int .u32 0, .int .i64 0, .int .u32 0, .int .u32 0] 38 (0, 0)) by rw [hZ, hg]; exact heap_alloc_new _ _)
          have HLb := Lib.hid (show W.heap.size + 1 < gb by
            have h2 := (Array.getElem?_eq_some_iff.1 HS3.out.pq).1
            omega)
          have HNpb := Lib.hid (show ∀ k, (Value.slice sa M.rc.adjs.length sc).ownBlock = some k → k ≠ gb from fun k hk e => by
            have h1 := (Row.lt HRp3.out k hk).2
            omega)
          have HNqb := Lib.hid (show ∀ k, (Value.slice ta N.rc.adjs.length tc).ownBlock = some k → k ≠ gb from fun k hk e => by
            have h1 := (Row.lt HRq3.out k hk).2
            omega)
          have HAB := Lib.hid (show ga ≠ gb from fun e => by
            have h2 := (Array.getElem?_eq_some_iff.1 HGa3.out).1
            omega)
          rw [← hZ, ← hg]
          refine hK _ _ HS4.out ?_
          clear hK K hb hZ hg
          refine wpOQ_store rfl rfl (by kernel_rfl) 38 (.tmp 5) (.tmp 10) rfl ga rfl 38 _ (M.cs sa sc) rfl HGa4.out (info_msg' M sa sc) rfl (cs_one M sa sc) (HS4.out.setRow HLa.out) ?_
          refine wpOQ_store rfl rfl (by kernel_rfl) 38 (.tmp 6) (.tmp 12) rfl gb rfl 38 _ (N.cs ta tc) rfl ((setRow_other _ ga gb _ (fun e => HAB.out e.symm)).trans HGb4.out) (info_msg' N ta tc) rfl (cs_one N ta tc) ((HS4.out.setRow HLa.out).setRow HLb.out) ?_
          refine wpOQ_nil ?_
          go_wp2_with fail
          go_meet
          exact ⟨ga, gb, sa, sc, ta, tc, rfl, rfl, ot_end HS4.out.bel HGa4.out HGb4.out HRp4.out HRq4.out HNpa.out HNpb.out HNqa.out HNqb.out HAB.out HLa.out HLb.out⟩
        · skip
          apply wpOQ_do rfl (by kernel_rfl)
          intro K hK
          go_simp
          obtain ⟨gb, hg⟩ : ∃ g, g = Z2.heap.size := ⟨_, rfl⟩
          obtain ⟨Z3, hZ⟩ : ∃ X, X = Z2.alloc (.cells #[.int .i64 0, .int .i64 0, .int .u32 0, .int .u32 0, .int .i64 0, .bool false, .slice none 0 0, .int .i64 0, .int .u32 0, .int .u32 0, .int .i64 0, .int .i64 0, .int .u32 0, .int .i64 0, .int .i64 0, .int .i64 0, .int .u32 0, .int .u64 0, .int .u64 0, .int .u64 0, .int .u64 0, .int .i64 0, .int .i64 0, .int .i64 0, .int .u32 0, .int .u32 0, .int .u8 0, .int .i64 0, .int .u32 0, .int .i64 0, .int .u32 0, .int .u32 0] 38) := ⟨_, rfl⟩
          have hb : Below Z2.heap.size Z2 Z3 := by rw [hZ]; exact (Below.refl _ _).alloc (Nat.le_refl _) _
          have HS3 := Lib.hid (HS2.out.later hb)
          have HRp3 := Lib.hid (Row.later HRp2.out hb)
          have HGa3 := Lib.hid (blk HGa2.out hb)
          have HGb3 := Lib.hid (show Z3.heap[gb]? = some (.cells #[.int .i64 0, .int .i64 0, .int .u32 0, .int .u32 0, .int .i64 0, .bool false, .slice none 0 0, .int .i64 0, .int .u32 0, .int .u32 0, .int .i64 0, .int .i64 0, .int .u32 0, .int .i64 0, .int .i64 0, .int .i64 0, .int .u32 0, .int .u64 0, .int .u64 0, .int .u64 0, .int .u64 0, .int .i64 0, .int .i64 0, .int .i64 0, .int .u32 0, .int .u32 0, .int .u8 0, .int .i64 0, .int .u32 0, .int .i64 0, .int .u32 0, .int .u32 0] 38 (0, 0)) by rw [hZ, hg]; exact heap_alloc_new _ _)
          have HLb := Lib.hid (show W.heap.size + 1 < gb by
            have h2 := (Array.getElem?_eq_some_iff.1 HS2.out.pq).1
            omega)
          have HNpb := Lib.hid (show ∀ k, (Value.slice sa M.rc.adjs.length sc).ownBlock = some k → k ≠ gb from fun k hk e => by
            have h1 := (Row.lt HRp2.out k hk).2
            omega)
          have HAB := Lib.hid (show ga ≠ gb from fun e => by
            have h2 := (Array.getElem?_eq_some_iff.1 HGa2.out).1
            omega)
          rw [← hZ, ← hg]
          refine hK _ _ HS3.out ?_
          clear hK K hb hZ hg
          apply wpOQ_do rfl (by kernel_rfl)
          intro K hK
          go_simp
          refine (HOq.out Z3).mono ?_
          rintro e Z4 ⟨ta, tc, rfl, har, hb⟩
          unfold Ms.ag
          have HS4 := Lib.hid (HS3.out.later hb)
          have HRp4 := Lib.hid (Row.later HRp3.out hb)
          have HGa4 := Lib.hid (blk HGa3.out hb)
          have HGb4 := Lib.hid (blk HGb3.out hb)
          have HRq4 := Lib.hid har
          have HNqa := Lib.hid (show ∀ k, (Value.slice ta N.rc.adjs.length tc).ownBlock = some k → k ≠ ga from fun k hk e => by
            have h1 := (Row.lt har k hk).1
            have h2 := (Array.getElem?_eq_some_iff.1 HGa3.out).1
            omega)
          have HNqb := Lib.hid (show ∀ k, (Value.slice ta N.rc.adjs.length tc).ownBlock = some k → k ≠ gb from fun k hk e => by
            have h1 := (Row.lt har k hk).1
            have h2 := (Array.getElem?_eq_some_iff.1 HGb3.out).1
            omega)
          refine hK _ _ HS4.out ?_
          clear hK K hb har
          refine wpOQ_store rfl rfl (by kernel_rfl) 38 (.tmp 5) (.tmp 10) rfl ga rfl 38 _ (M.cs sa sc) rfl HGa4.out (info_msg' M sa sc) rfl (cs_one M sa sc) (HS4.out.setRow HLa.out) ?_
          refine wpOQ_store rfl rfl (by kernel_rfl) 38 (.tmp 6) (.tmp 12) rfl gb rfl 38 _ (N.cs ta tc) rfl ((setRow_other _ ga gb _ (fun e => HAB.out e.symm)).trans HGb4.out) (info_msg' N ta tc) rfl (cs_one N ta tc) ((HS4.out.setRow HLa.out).setRow HLb.out) ?_
          refine wpOQ_nil ?_
          go_wp2_with fail
          go_meet
          exact ⟨ga, gb, sa, sc, ta, tc, rfl, rfl, ot_end HS4.out.bel HGa4.out HGb4.out HRp4.out HRq4.out HNpa.out HNpb.out HNqa.out HNqb.out HAB.out HLa.out HLb.out⟩
      · skip
        apply wpOQ_do rfl (by kernel_rfl)
        intro K hK
        go_simp
        obtain ⟨gb, hg⟩ : ∃ g, g = Z1.heap.size := ⟨_, rfl⟩
        obtain ⟨Z2, hZ⟩ : ∃ X, X = Z1.alloc (.cells #[.int .i64 0, .int .i64 0, .int .u32 0, .int .u32 0, .int .i64 0, .bool false, .slice none 0 0, .int .i64 0, .int .u32 0, .int .u32 0, .int .i64 0, .int .i64 0, .int .u32 0, .int .i64 0, .int .i64 0, .int .i64 0, .int .u32 0, .int .u64 0, .int .u64 0, .int .u64 0, .int .u64 0, .int .i64 0, .int .i64 0, .int .i64 0, .int .u32 0, .int .u32 0, .int .u8 0, .int .i64 0, .int .u32 0, .int .i64 0, .int .u32 0, .int .u32 0] 38) := ⟨_, rfl⟩
        have hb : Below Z1.heap.size Z1 Z2 := by rw [hZ]; exact (Below.refl _ _).alloc (Nat.le_refl _) _
        have HS2 := Lib.hid (HS1.out.later hb)
        have HRp2 := Lib.hid (Row.later HRp1.out hb)
        have HGb2 := Lib.hid (show Z2.heap[gb]? = some (.cells #[.int .i64 0, .int .i64 0, .int .u32 0, .int .u32 0, .int .i64 0, .bool false, .slice none 0 0, .int .i64 0, .int .u32 0, .int .u32 0, .int .i64 0, .int .i64 0, .int .u32 0, .int .i64 0, .int .i64 0, .int .i64 0, .int .u32 0, .int .u64 0, .int .u64 0, .int .u64 0, .int .u64 0, .int .i64 0, .int .i64 0, .int .i64 0, .int .u32 0, .int .u32 0, .int .u8 0, .int .i64 0, .int .u32 0, .int .i64 0, .int .u32 0, .int .u32 0] 38 (0, 0)) by rw [hZ, hg]; exact heap_alloc_new _ _)
        have HLb := Lib.hid (show W.heap.size + 1 < gb by
          have h2 := (Array.getElem?_eq_some_iff.1 HS1.out.pq).1
          omega)
        have HNpb := Lib.hid (show ∀ k, (Value.slice sa M.rc.adjs.length sc).ownBlock = some k → k ≠ gb from fun k hk e => by
          have h1 := (Row.lt HRp1.out k hk).2
          omega)
        rw [← hZ, ← hg]
        refine hK _ _ HS2.out ?_
        clear hK K hb hZ hg
        apply wpOQ_two
        · skip
          apply wpOQ_do rfl (by kernel_rfl)
          intro K hK
          go_simp
          refine (HOq.out Z2).mono ?_
          rintro e Z3 ⟨ta, tc, rfl, har, hb⟩
          unfold Ms.ag
          have HS3 := Lib.hid (HS2.out.later hb)
          have HRp3 := Lib.hid (Row.later HRp2.out hb)
          have HGb3 := Lib.hid (blk HGb2.out hb)
          have HRq3 := Lib.hid har
          have HNqb := Lib.hid (show ∀ k, (Value.slice ta N.rc.adjs.length tc).ownBlock = some k → k ≠ gb from fun k hk e => by
            have h1 := (Row.lt har k hk).1
            have h2 := (Array.getElem?_eq_some_iff.1 HGb2.out).1
            omega)
          refine hK _ _ HS3.out ?_
          clear hK K hb har
          apply wpOQ_do rfl (by kernel_rfl)
          intro K hK
          go_simp
          obtain ⟨ga, hg⟩ : ∃ g, g = Z3.heap.size := ⟨_, rfl⟩
          obtain ⟨Z4, hZ⟩ : ∃ X, X = Z3.alloc (.cells #[.int .i64 0, .int .i64 0, .int .u32 0, .int .u32 0, .int .i64 0, .bool false, .slice none 0 0, .int .i64 0, .int .u32 0, .int .u32 0, .int .i64 0, .int .i64 0, .int .u32 0, .int .i64 0, .int .i64 0, .int .i64 0, .int .u32 0, .int .u64 0, .int .u64 0, .int .u64 0, .int .u64 0, .int .i64 0, .int .i64 0, .int .i64 0, .int .u32 0, .int .u32 0, .int .u8 0, .int .i64 0, .int .u32 0, .int .i64 0, .int .u32 0, .int .u32 0] 38) := ⟨_, rfl⟩
          have hb : Below Z3.heap.size Z3 Z4 := by rw [hZ]; exact (Below.refl _ _).alloc (Nat.le_refl _) _
          have HS4 := Lib.hid (HS3.out.later hb)
          have HRp4 := Lib.hid (Row.later HRp3.out hb)
          have HRq4 := Lib.hid (Row.later HRq3.out hb)
          have HGb4 := Lib.hid (blk HGb3.out hb)
          have HGa4 := Lib.hid (show Z4.heap[ga]? = some (.cells #[.int .i64 0, .int .i64 0, .int .u32 0, .int .u32 0, .int .i64 0, .bool false, .slice none 0 0, .int .i64 0, .int .u32 0, .int .u32 0, .int .i64 0, .int .i64 0, .int .u32 0, .int .i64 0, .int .i64 0, .int .i64 0, .int .u32 0, .int .u64 0, .int .u64 0, .int .u64 0, .int .u64 0, .int .i64 0, .int .i64 0, .int .i64 0, .int .u32 0, .int .u32 0, .int .u8 0, .int .i64 0, .int .u32 0, .int .i64 0, .int .u32 0, .int .u32 0] 38 (0, 0)) by rw [hZ, hg]; exact heap_alloc_new _ _)
          have HLa := Lib.hid (show W.heap.size + 1 < ga by
            have h2 := (Array.getElem?_eq_some_iff.1 HS3.out.pq).1
            omega)
          have HNpa := Lib.hid (show ∀ k, (Value.slice sa M.rc.adjs.length sc).ownBlock = some k → k ≠ ga from fun k hk e => by
            have h1 := (Row.lt HRp3.out k hk).2
            omega)
          have HNqa := Lib.hid (show ∀ k, (Value.slice ta N.rc.adjs.length tc).ownBlock = some k → k ≠ ga from fun k hk e => by
            have h1 := (Row.lt HRq3.out k hk).2
            omega)
          have HAB := Lib.hid (show ga ≠ gb from fun e => by
            have h2 := (Array.getElem?_eq_some_iff.1 HGb3.out).1
            omega)
          rw [← hZ, ← hg]
          refine hK _ _ HS4.out ?_
          clear hK K hb hZ hg
          refine wpOQ_store rfl rfl (by kernel_rfl) 38 (.tmp 5) (.tmp 10) rfl ga rfl 38 _ (M.cs sa sc) rfl HGa4.out (info_msg' M sa sc) rfl (cs_one M sa sc) (HS4.out.setRow HLa.out) ?_
          refine wpOQ_store rfl rfl (by kernel_rfl) 38 (.tmp 6) (.tmp 12) rfl gb rfl 38 _ (N.cs ta tc) rfl ((setRow_other _ ga gb _ (fun e => HAB.out e.symm)).trans HGb4.out) (info_msg' N ta tc) rfl (cs_one N ta tc) ((HS4.out.setRow HLa.out).setRow HLb.out) ?_
          refine wpOQ_nil ?_
          go_wp2_with fail
          go_meet
          exact ⟨ga, gb, sa, sc, ta, tc, rfl, rfl, ot_end HS4.out.bel HGa4.out HGb4.out HRp4.out HRq4.out HNpa.out HNpb.out HNqa.out HNqb.out HAB.out HLa.out HLb.out⟩
        · skip
          apply wpOQ_do rfl (by kernel_rfl)
          intro K hK
          go_simp
          obtain ⟨ga, hg⟩ : ∃ g, g = Z2.heap.size := ⟨_, rfl⟩
          obtain ⟨Z3, hZ⟩ : ∃ X, X = Z2.alloc (.cells #[.int .i64 0, .int .i64 0, .int .u32 0, .int .u32 0, .int .i64 0, .bool false, .slice none 0 0, .int .i64 0, .int .u32 0, .int .u32 0, .int .i64 0, .int .i64 0, .int .u32 0, .int .i64 0, .int .i64 0, .int .i64 0, .int .u32 0, .int .u64 0, .int .u64 0, .int .u64 0, .int .u64 0, .int .i64 0, .int .i64 0, .int .i64 0, .int .u32 0, .int .u32 0, .int .u8 0, .int .i64 0, .int .u32 0, .int .i64 0, .int .u32 0, .int .u32 0] 38) := ⟨_, rfl⟩
          have hb : Below Z2.heap.size Z2 Z3 := by rw [hZ]; exact (Below.refl _ _).alloc (Nat.le_refl _) _
          have HS3 := Lib.hid (HS2.out.later hb)
          have HRp3 := Lib.hid (Row.later HRp2.out hb)
          have HGb3 := Lib.hid (blk HGb2.out hb)
          have HGa3 := Lib.hid (show Z3.heap[ga]? = some (.cells #[.int .i64 0, .int .i64 0, .int .u32 0, .int .u32 0, .int .i64 0, .bool false, .slice none 0 0, .int .i64 0, .int .u32 0, .int .u32 0, .int .i64 0, .int .i64 0, .int .u32 0, .int .i64 0, .int .i64 0, .int .i64 0, .int .u32 0, .int .u64 0, .int .u64 0, .int .u64 0, .int .u64 0, .int .i64 0, .int .i64 0, .int .i64 0, .int .u32 0, .int .u32 0, .int .u8 0, .int .i64 0, .int .u32 0, .int .i64 0, .int .u32 0, .int .u32 0] 38 (0, 0)) by rw [hZ, hg]; exact heap_alloc_new _ _)
          have HLa := Lib.hid (show W.heap.size + 1 < ga by
            have h2 := (Array.getElem?_eq_some_iff.1 HS2.out.pq).1
            omega)
          have HNpa := Lib.hid (show ∀ k, (Value.slice sa M.rc.adjs.length sc).ownBlock = some k → k ≠ ga from fun k hk e => by
            have h1 := (Row.lt HRp2.out k hk).2
            omega)
          have HAB := Lib.hid (show ga ≠ gb from fun e => by
            have h2 := (Array.getElem?_eq_some_iff.1 HGb2.out).1
            omega)
          rw [← hZ, ← hg]
          refine hK _ _ HS3.out ?_
          clear hK K hb hZ hg
          apply wpOQ_do rfl (by kernel_rfl)
          intro K hK
          go_simp
          refine (HOq.out Z3).mono ?_
          rintro e Z4 ⟨ta, tc, rfl, har, hb⟩
          unfold Ms.ag
          have HS4 := Lib.hid (HS3.out.later hb)
          have HRp4 := Lib.hid (Row.later HRp3.out hb)
          have HGa4 := Lib.hid (blk HGa3.out hb)
          have HGb4 := Lib.hid (blk HGb3.out hb)
          have HRq4 := Lib.hid har
          have HNqa := Lib.hid (show ∀ k, (Value.slice ta N.rc.adjs.length tc).ownBlock = some k → k ≠ ga from fun k hk e => by
            have h1 := (Row.lt har k hk).1
            have h2 := (Array.getElem?_eq_some_iff.1 HGa3.out).1
            omega)
          have HNqb := Lib.hid (show ∀ k, (Value.slice ta N.rc.adjs.length tc).ownBlock = some k → k ≠ gb from fun k hk e => by
            have h1 := (Row.lt har k hk).1
            have h2 := (Array.getElem?_eq_some_iff.1 HGb3.out).1
            omega)
          refine hK _ _ HS4.out ?_
          clear hK K hb har
          refine wpOQ_store rfl rfl (by kernel_rfl) 38 (.tmp 5) (.tmp 10) rfl ga rfl 38 _ (M.cs sa sc) rfl HGa4.out (info_msg' M sa sc) rfl (cs_one M sa sc) (HS4.out.setRow HLa.out) ?_
          refine wpOQ_store rfl rfl (by kernel_rfl) 38 (.tmp 6) (.tmp 12) rfl gb rfl 38 _ (N.cs ta tc) rfl ((setRow_other _ ga gb _ (fun e => HAB.out e.symm)).trans HGb4.out) (info_msg' N ta tc) rfl (cs_one N ta tc) ((HS4.out.setRow HLa.out).setRow HLb.out) ?_
          refine wpOQ_nil ?_
          go_wp2_with fail
          go_meet
          exact ⟨ga, gb, sa, sc, ta, tc, rfl, rfl, ot_end HS4.out.bel HGa4.out HGb4.out HRp4.out HRq4.out HNpa.out HNpb.out HNqa.out HNqb.out HAB.out HLa.out HLb.out⟩
    · skip
      apply wpOQ_do rfl (by kernel_rfl)
      intro K hK
      go_simp
      obtain ⟨ga, hg⟩ : ∃ g, g = Z0.heap.size := ⟨_, rfl⟩
      obtain ⟨Z1, hZ⟩ : ∃ X, X = Z0.alloc (.cells #[.int .i64 0, .int .i64 0, .int .u32 0, .int .u32 0, .int .i64 0, .bool false, .slice none 0 0, .int .i64 0, .int .u32 0, .int .u32 0, .int .i64 0, .int .i64 0, .int .u32 0, .int .i64 0, .int .i64 0, .int .i64 0, .int .u32 0, .int .u64 0, .int .u64 0, .int .u64 0, .int .u64 0, .int .i64 0, .int .i64 0, .int .i64 0, .int .u32 0, .int .u32 0, .int .u8 0, .int .i64 0, .int .u32 0, .int .i64 0, .int .u32 0, .int .u32 0] 38) := ⟨_, rfl⟩
      have hb : Below Z0.heap.size Z0 Z1 := by rw [hZ]; exact (Below.refl _ _).alloc (Nat.le_refl _) _
      have HS1 := Lib.hid (HS0.out.later hb)
      have HGa1 := Lib.hid (show Z1.heap[ga]? = some (.cells #[.int .i64 0, .int .i64 0, .int .u32 0, .int .u32 0, .int .i64 0, .bool false, .slice none 0 0, .int .i64 0, .int .u32 0, .int .u32 0, .int .i64 0, .int .i64 0, .int .u32 0, .int .i64 0, .int .i64 0, .int .i64 0, .int .u32 0, .int .u64 0, .int .u64 0, .int .u64 0, .int .u64 0, .int .i64 0, .int .i64 0, .int .i64 0, .int .u32 0, .int .u32 0, .int .u8 0, .int .i64 0, .int .u32 0, .int .i64 0, .int .u32 0, .int .u32 0] 38 (0, 0)) by rw [hZ, hg]; exact heap_alloc_new _ _)
      have HLa := Lib.hid (show W.heap.size + 1 < ga by
        have h2 := (Array.getElem?_eq_some_iff.1 HS0.out.pq).1
        omega)
      rw [← hZ, ← hg]
      refine hK _ _ HS1.out ?_
      clear hK K hb hZ hg
      apply wpOQ_two
      · skip
        apply wpOQ_do rfl (by kernel_rfl)
        intro K hK
        go_simp
        refine (HOp.out Z1).mono ?_
        rintro e Z2 ⟨sa, sc, rfl, har, hb⟩
        unfold Ms.ag
        have HS2 := Lib.hid (HS1.out.later hb)
        have HGa2 := Lib.hid (blk HGa1.out hb)
        have HRp2 := Lib.hid har
        have HNpa := Lib.hid (show ∀ k, (Value.slice sa M.rc.adjs.length sc).ownBlock = some k → k ≠ ga from fun k hk e => by
          have h1 := (Row.lt har k hk).1
          have h2 := (Array.getElem?_eq_some_iff.1 HGa1.out).1
          omega)
        refine hK _ _ HS2.out ?_
        clear hK K hb har
        apply wpOQ_two
        · skip
          apply wpOQ_do rfl (by kernel_rfl)
          intro K hK
          go_simp
          refine (HOq.out Z2).mono ?_
          rintro e Z3 ⟨ta, tc, rfl, har, hb⟩
          unfold Ms.ag
          have HS3 := Lib.hid (HS2.out.later hb)
          have HRp3 := Lib.hid (Row.later HRp2.out hb)
          have HGa3 := Lib.hid (blk HGa2.out hb)
          have HRq3 := Lib.hid har
          have HNqa := Lib.hid (show ∀ k, (Value.slice ta N.rc.adjs.length tc).ownBlock = some k → k ≠ ga from fun k hk e => by
            have h1 := (Row.lt har k hk).1
            have h2 := (Array.getElem?_eq_some_iff.1 HGa2.out).1
            omega)
          refine hK _ _ HS3.out ?_
          clear hK K hb har
          apply wpOQ_do rfl (by kernel_rfl)
          intro K hK
          go_simp
          obtain ⟨gb, hg⟩ : ∃ g, g = Z3.heap.size := ⟨_, rfl⟩
          obtain ⟨Z4, hZ⟩ : ∃ X, X = Z3.alloc (.cells #[.int .i64 0, .int .i64 0, .int .u32 0, .int .u32 0, .int .i64 0, .bool false, .slice none 0 0, .int .i64 0, .int .u32 0, .int .u32 0, .int .i64 0, .int .i64 0, .int .u32 0, .int .i64 0, .int .i64 0, .int .i64 0, .int .u32 0, .int .u64 0, .int .u64 0, .int .u64 0, .int .u64 0, .int .i64 0, .int .i64 0, .int .i64 0, .int .u32 0, .int .u32 0, .int .u8 0, .int .i64 0, .int .u32 0, .int .i64 0, .int .u32 0, .int .u32 0] 38) := ⟨_, rfl⟩
          have hb : Below Z3.heap.size Z3 Z4 := by rw [hZ]; exact (Below.refl _ _).alloc (Nat.le_refl _) _
          have HS4 := Lib.hid (HS3.out.later hb)
          have HRp4 := Lib.hid (Row.later HRp3.out hb)
          have HRq4 := Lib.hid (Row.later HRq3.out hb)
          have HGa4 := Lib.hid (blk HGa3.out hb)
          have HGb4 := Lib.hid (show Z4.heap[gb]? = some (.cells #[.int .i64 0, .int .i64 0, .int .u32 0, .int .u32 0, .int .i64 0, .bool false, .slice none 0 0, .int .i64 0, .int .u32 0, .int .u32 0, .int .i64 0, .int .i64 0, .int .u32 0, .int .i64 0, .int .i64 0, .int .i64 0, .int .u32 0, .int .u64 0, .int .u64 0, .int .u64 0, .int .u64 0, .int .i64 0, .int .i64 0, .int .i64 0, .int .u32 0, .int .u32 0, .int .u8 0, .int .i64 0, .int .u32 0, .int .i64 0, .int .u32 0, .int .u32 0] 38 (0, 0)) by rw [hZ, hg]; exact heap_alloc_new _ _)
          have HLb := Lib.hid (show W.heap.size + 1 < gb by
            have h2 := (Array.getElem?_eq_some_iff.1 HS3.out.pq).1
            omega)
          have HNpb := Lib.hid (show ∀ k, (Value.slice sa M.rc.adjs.length sc).ownBlock = some k → k ≠ gb from fun k hk e => by
            have h1 := (Row.lt HRp3.out k hk).2
            omega)
          have HNqb := Lib.hid (show ∀ k, (Value.slice ta N.rc.adjs.length tc).ownBlock = some k → k ≠ gb from fun k hk e => by
            have h1 := (Row.lt HRq3.out k hk).2
            omega)
          have HAB := Lib.hid (show ga ≠ gb from fun e => by
            have h2 := (Array.getElem?_eq_some_iff.1 HGa3.out).1
            omega)
          rw [← hZ, ← hg]
          refine hK _ _ HS4.out ?_
          clear hK K hb hZ hg
          refine wpOQ_store rfl rfl (by kernel_rfl) 38 (.tmp 5) (.tmp 10) rfl ga rfl 38 _ (M.cs sa sc) rfl HGa4.out (info_msg' M sa sc) rfl (cs_one M sa sc) (HS4.out.setRow HLa.out) ?_
          refine wpOQ_store rfl rfl (by kernel_rfl) 38 (.tmp 6) (.tmp 12) rfl gb rfl 38 _ (N.cs ta tc) rfl ((setRow_other _ ga gb _ (fun e => HAB.out e.symm)).trans HGb4.out) (info_msg' N ta tc) rfl (cs_one N ta tc) ((HS4.out.setRow HLa.out).setRow HLb.out) ?_
          refine wpOQ_nil ?_
          go_wp2_with fail
          go_meet
          exact ⟨ga, gb, sa, sc, ta, tc, rfl, rfl, ot_end HS4.out.bel HGa4.out HGb4.out HRp4.out HRq4.out HNpa.out HNpb.out HNqa.out HNqb.out HAB.out HLa.out HLb.out⟩
        · skip
          apply wpOQ_do rfl (by kernel_rfl)
          intro K hK
          go_simp
          obtain ⟨gb, hg⟩ : ∃ g, g = Z2.heap.size := ⟨_, rfl⟩
          obtain ⟨Z3, hZ⟩ : ∃ X, X = Z2.alloc (.cells #[.int .i64 0, .int .i64 0, .int .u32 0, .int .u32 0, .int .i64 0, .bool false, .slice none 0 0, .int .i64 0, .int .u32 0, .int .u32 0, .int .i64 0, .int .i64 0, .int .u32 0, .int .i64 0, .int .i64 0, .int .i64 0, .int .u32 0, .int .u64 0, .int .u64 0, .int .u64 0, .int .u64 0, .int .i64 0, .int .i64 0, .int .i64 0, .int .u32 0, .int .u32 0, .int .u8 0, .int .i64 0, .int .u32 0, .int .i64 0, .int .u32 0, .int .u32 0] 38) := ⟨_, rfl⟩
          have hb : Below Z2.heap.size Z2 Z3 := by rw [hZ]; exact (Below.refl _ _).alloc (Nat.le_refl _) _
          have HS3 := Lib.hid (HS2.out.later hb)
          have HRp3 := Lib.hid (Row.later HRp2.out hb)
          have HGa3 := Lib.hid (blk HGa2.out hb)
          have HGb3 := Lib.hid (show Z3.heap[gb]? = some (.cells #[.int .i64 0, .int .i64 0, .int .u32 0, .int .u32 0, .int .i64 0, .bool false, .slice none 0 0, .int .i64 0, .int .u32 0, .int .u32 0, .int .i64 0, .int .i64 0, .int .u32 0, .int .i64 0, .int .i64 0, .int .i64 0, .int .u32 0, .int .u64 0, .int .u64 0, .int .u64 0, .int .u64 0, .int .i64 0, .int .i64 0, .int .i64 0, .int .u32 0, .int .u32 0, .int .u8 0, .int .i64 0, .int .u32 0, .int .i64 0, .int .u32 0, .int .u32 0] 38 (0, 0)) by rw [hZ, hg]; exact heap_alloc_new _ _)
          have HLb := Lib.hid (show W.heap.size + 1 < gb by
            have h2 := (Array.getElem?_eq_some_iff.1 HS2.out.pq).1
            omega)
          have HNpb := Lib.hid (show ∀ k, (Value.slice sa M.rc.adjs.length sc).ownBlock = some k → k ≠ gb from fun k hk e => by
            have h1 := (Row.lt HRp2.out k hk).2
            omega)
          have HAB := Lib.hid (show ga ≠ gb from fun e => by
            have h2 := (Array.getElem?_eq_some_iff.1 HGa2.out).1
            omega)
          rw [← hZ, ← hg]
          refine hK _ _ HS3.out ?_
          clear hK K hb hZ hg
          apply wpOQ_do rfl (by kernel_rfl)
          intro K hK
          go_simp
          refine (HOq.out Z3).mono ?_
          rintro e Z4 ⟨ta, tc, rfl, har, hb⟩
          unfold Ms.ag
          have HS4 := Lib.hid (HS3.out.later hb)
          have HRp4 := Lib.hid (Row.later HRp3.out hb)
          have HGa4 := Lib.hid (blk HGa3.out hb)
          have HGb4 := Lib.hid (blk HGb3.out hb)
          have HRq4 := Lib.hid har
          have HNqa := Lib.hid (show ∀ k, (Value.slice ta N.rc.adjs.length tc).ownBlock = some k → k ≠ ga from fun k hk e => by
            have h1 := (Row.lt har k hk).1
            have h2 := (Array.getElem?_eq_some_iff.1 HGa3.out).1
            omega)
          have HNqb := Lib.hid (show ∀ k, (Value.slice ta N.rc.adjs.length tc).ownBlock = some k → k ≠ gb from fun k hk e => by
            have h1 := (Row.lt har k hk).1
            have h2 := (Array.getElem?_eq_some_iff.1 HGb3.out).1
            omega)
          refine hK _ _ HS4.out ?_
          clear hK K hb har
          refine wpOQ_store rfl rfl (by kernel_rfl) 38 (.tmp 5) (.tmp 10) rfl ga rfl 38 _ (M.cs sa sc) rfl HGa4.out (info_msg' M sa sc) rfl (cs_one M sa sc) (HS4.out.setRow HLa.out) ?_
          refine wpOQ_store rfl rfl (by kernel_rfl) 38 (.tmp 6) (.tmp 12) rfl gb rfl 38 _ (N.cs ta tc) rfl ((setRow_other _ ga gb _ (fun e => HAB.out e.symm)).trans HGb4.out) (info_msg' N ta tc) rfl (cs_one N ta tc) ((HS4.out.setRow HLa.out).setRow HLb.out) ?_
          refine wpOQ_nil ?_
          go_wp2_with fail
          go_meet
          exact ⟨ga, gb, sa, sc, ta, tc, rfl, rfl, ot_end HS4.out.bel HGa4.out HGb4.out HRp4.out HRq4.out HNpa.out HNpb.out HNqa.out HNqb.out HAB.out HLa.out HLb.out⟩
      · skip
        apply wpOQ_do rfl (by kernel_rfl)
        intro K hK
        go_simp
        obtain ⟨gb, hg⟩ : ∃ g, g = Z1.heap.size := ⟨_, rfl⟩
        obtain ⟨Z2, hZ⟩ : ∃ X, X = Z1.alloc (.cells #[.int .i64 0, .int .i64 0, .int .u32 0, .int .u32 0, .int .i64 0, .bool false, .slice none 0 0, .int .i64 0, .int .u32 0, .int .u32 0, .int .i64 0, .int .i64 0, .int .u32 0, .int .i64 0, .int .i64 0, .int .i64 0, .int .u32 0, .int .u64 0, .int .u64 0, .int .u64 0, .int .u64 0, .int .i64 0, .int .i64 0, .int .i64 0, .int .u32 0, .int .u32 0, .int .u8 0, .int .i64 0, .int .u32 0, .int .i64 0, .int .u32 0, .int .u32 0] 38) := ⟨_, rfl⟩
        have hb : Below Z1.heap.size Z1 Z2 := by rw [hZ]; exact (Below.refl _ _).alloc (Nat.le_refl _) _
        have HS2 := Lib.hid (HS1.out.later hb)
        have HGa2 := Lib.hid (blk HGa1.out hb)
        have HGb2 := Lib.hid (show Z2.heap[gb]? = some (.cells #[.int .i64 0, .int .i64 0, .int .u32 0, .int .u32 0, .int .i64 0, .bool false, .slice none 0 0, .int .i64 0, .int .u32 0, .int .u32 0, .int .i64 0, .int .i64 0, .int .u32 0, .int .i64 0, .int .i64 0, .int .i64 0, .int .u32 0, .int .u64 0, .int .u64 0, .int .u64 0, .int .u64 0, .int .i64 0, .int .i64 0, .int .i64 0, .int .u32 0, .int .u32 0, .int .u8 0, .int .i64 0, .int .u32 0, .int .i64 0, .int .u32 0, .int .u32 0] 38 (0, 0)) by rw [hZ, hg]; exact heap_alloc_new _ _)
        have HLb := Lib.hid (show W.heap.size + 1 < gb by
          have h2 := (Array.getElem?_eq_some_iff.1 HS1.out.pq).1
          omega)
        have HAB := Lib.hid (show ga ≠ gb from fun e => by
          have h2 := (Array.getElem?_eq_some_iff.1 HGa1.out).1
          omega)
        rw [← hZ, ← hg]
        refine hK _ _ HS2.out ?_
        clear hK K hb hZ hg
        apply wpOQ_do rfl (by kernel_rfl)
        intro K hK
        go_simp
        refine (HOp.out Z2).mono ?_
        rintro e Z3 ⟨sa, sc, rfl, har, hb⟩
        unfold Ms.ag
        have HS3 := Lib.hid (HS2.out.later hb)
        have HGa3 := Lib.hid (blk HGa2.out hb)
        have HGb3 := Lib.hid (blk HGb2.out hb)
        have HRp3 := Lib.hid har
        have HNpa := Lib.hid (show ∀ k, (Value.slice sa M.rc.adjs.length sc).ownBlock = some k → k ≠ ga from fun k hk e => by
          have h1 := (Row.lt har k hk).1
          have h2 := (Array.getElem?_eq_some_iff.1 HGa2.out).1
          omega)
        have HNpb := Lib.hid (show ∀ k, (Value.slice sa M.rc.adjs.length sc).ownBlock = some k → k ≠ gb from fun k hk e => by
          have h1 := (Row.lt har k hk).1
          have h2 := (Array.getElem?_eq_some_iff.1 HGb2.out).1
          omega)
        refine hK _ _ HS3.out ?_
        clear hK K hb har
        apply wpOQ_do rfl (by kernel_rfl)
        intro K hK
        go_simp
        refine (HOq.out Z3).mono ?_
        rintro e Z4 ⟨ta, tc, rfl, har, hb⟩
        unfold Ms.ag
        have HS4 := Lib.hid (HS3.out.later hb)
        have HRp4 := Lib.hid (Row.later HRp3.out hb)
        have HGa4 := Lib.hid (blk HGa3.out hb)
        have HGb4 := Lib.hid (blk HGb3.out hb)
        have HRq4 := Lib.hid har
        have HNqa := Lib.hid (show ∀ k, (Value.slice ta N.rc.adjs.length tc).ownBlock = some k → k ≠ ga from fun k hk e => by
          have h1 := (Row.lt har k hk).1
          have h2 := (Array.getElem?_eq_some_iff.1 HGa3.out).1
          omega)
        have HNqb := Lib.hid (show ∀ k, (Value.slice ta N.rc.adjs.length tc).ownBlock = some k → k ≠ gb from fun k hk e => by
          have h1 := (Row.lt har k hk).1
          have h2 := (Array.getElem?_eq_some_iff.1 HGb3.out).1
          omega)
        refine hK _ _ HS4.out ?_
        clear hK K hb har
        refine wpOQ_store rfl rfl (by kernel_rfl) 38 (.tmp 5) (.tmp 10) rfl ga rfl 38 _ (M.cs sa sc) rfl HGa4.out (info_msg' M sa sc) rfl (cs_one M sa sc) (HS4.out.setRow HLa.out) ?_
        refine wpOQ_store rfl rfl (by kernel_rfl) 38 (.tmp 6) (.tmp 12) rfl gb rfl 38 _ (N.cs ta tc) rfl ((setRow_other _ ga gb _ (fun e => HAB.out e.symm)).trans HGb4.out) (info_msg' N ta tc) rfl (cs_one N ta tc) ((HS4.out.setRow HLa.out).setRow HLb.out) ?_
        refine wpOQ_nil ?_
        go_wp2_with fail
        go_meet
        exact ⟨ga, gb, sa, sc, ta, tc, rfl, rfl, ot_end HS4.out.bel HGa4.out HGb4.out HRp4.out HRq4.out HNpa.out HNpb.out HNqa.out HNqb.out HAB.out HLa.out HLb.out⟩
    · skip
      apply wpOQ_do rfl (by kernel_rfl)
      intro K hK
      go_simp
      obtain ⟨gb, hg⟩ : ∃ g, g = Z0.heap.size := ⟨_, rfl⟩
      obtain ⟨Z1, hZ⟩ : ∃ X, X = Z0.alloc (.cells #[.int .i64 0, .int .i64 0, .int .u32 0, .int .u32 0, .int .i64 0, .bool false, .slice none 0 0, .int .i64 0, .int .u32 0, .int .u32 0, .int .i64 0, .int .i64 0, .int .u32 0, .int .i64 0, .int .i64 0, .int .i64 0, .int .u32 0, .int .u64 0, .int .u64 0, .int .u64 0, .int .u64 0, .int .i64 0, .int .i64 0, .int .i64 0, .int .u32 0, .int .u32 0, .int .u8 0, .int .i64 0, .int .u32 0, .int .i64 0, .int .u32 0, .int .u32 0] 38) := ⟨_, rfl⟩
      have hb : Below Z0.heap.size Z0 Z1 := by rw [hZ]; exact (Below.refl _ _).alloc (Nat.le_refl _) _
      have HS1 := Lib.hid (HS0.out.later hb)
      have HGb1 := Lib.hid (show Z1.heap[gb]? = some (.cells #[.int .i64 0, .int .i64 0, .int .u32 0, .int .u32 0, .int .i64 0, .bool false, .slice none 0 0, .int .i64 0, .int .u32 0, .int .u32 0, .int .i64 0, .int .i64 0, .int .u32 0, .int .i64 0, .int .i64 0, .int .i64 0, .int .u32 0, .int .u64 0, .int .u64 0, .int .u64 0, .int .u64 0, .int .i64 0, .int .i64 0, .int .i64 0, .int .u32 0, .int .u32 0, .int .u8 0, .int .i64 0, .int .u32 0, .int .i64 0, .int .u32 0, .int .u32 0] 38 (0, 0)) by rw [hZ, hg]; exact heap_alloc_new _ _)
      have HLb := Lib.hid (show W.heap.size + 1 < gb by
        have h2 := (Array.getElem?_eq_some_iff.1 HS0.out.pq).1
        omega)
      rw [← hZ, ← hg]
      refine hK _ _ HS1.out ?_
      clear hK K hb hZ hg
      apply wpOQ_two
      · skip
        apply wpOQ_do rfl (by kernel_rfl)
        intro K hK
        go_simp
        refine (HOp.out Z1).mono ?_
        rintro e Z2 ⟨sa, sc, rfl, har, hb⟩
        unfold Ms.ag
        have HS2 := Lib.hid (HS1.out.later hb)
        have HGb2 := Lib.hid (blk HGb1.out hb)
        have HRp2 := Lib.hid har
        have HNpb := Lib.hid (show ∀ k, (Value.slice sa M.rc.adjs.length sc).ownBlock = some k → k ≠ gb from fun k hk e => by
          have h1 := (Row.lt har k hk).1
          have h2 := (Array.getElem?_eq_some_iff.1 HGb1.out).1
          omega)
        refine hK _ _ HS2.out ?_
        clear hK K hb har
        apply wpOQ_two
        · skip
          apply wpOQ_do rfl (by kernel_rfl)
          intro K hK
          go_simp
          refine (HOq.out Z2).mono ?_
          rintro e Z3 ⟨ta, tc, rfl, har, hb⟩
          unfold Ms.ag
          have HS3 := Lib.hid (HS2.out.later hb)
          have HRp3 := Lib.hid (Row.later HRp2.out hb)
          have HGb3 := Lib.hid (blk HGb2.out hb)
          have HRq3 := Lib.hid har
          have HNqb := Lib.hid (show ∀ k, (Value.slice ta N.rc.adjs.length tc).ownBlock = some k → k ≠ gb from fun k hk e => by
            have h1 := (Row.lt har k hk).1
            have h2 := (Array.getElem?_eq_some_iff.1 HGb2.out).1
            omega)
          refine hK _ _ HS3.out ?_
          clear hK K hb har
          apply wpOQ_do rfl (by kernel_rfl)
          intro K hK
          go_simp
          obtain ⟨ga, hg⟩ : ∃ g, g = Z3.heap.size := ⟨_, rfl⟩
          obtain ⟨Z4, hZ⟩ : ∃ X, X = Z3.alloc (.cells #[.int .i64 0, .int .i64 0, .int .u32 0, .int .u32 0, .int .i64 0, .bool false, .slice none 0 0, .int .i64 0, .int .u32 0, .int .u32 0, .int .i64 0, .int .i64 0, .int .u32 0, .int .i64 0, .int .i64 0, .int .i64 0, .int .u32 0, .int .u64 0, .int .u64 0, .int .u64 0, .int .u64 0, .int .i64 0, .int .i64 0, .int .i64 0, .int .u32 0, .int .u32 0, .int .u8 0, .int .i64 0, .int .u32 0, .int .i64 0, .int .u32 0, .int .u32 0] 38) := ⟨_, rfl⟩
          have hb : Below Z3.heap.size Z3 Z4 := by rw [hZ]; exact (Below.refl _ _).alloc (Nat.le_refl _) _
          have HS4 := Lib.hid (HS3.out.later hb)
          have HRp4 := Lib.hid (Row.later HRp3.out hb)
          have HRq4 := Lib.hid (Row.later HRq3.out hb)
          have HGb4 := Lib.hid (blk HGb3.out hb)
          have HGa4 := Lib.hid (show Z4.heap[ga]? = some (.cells #[.int .i64 0, .int .i64 0, .int .u32 0, .int .u32 0, .int .i64 0, .bool false, .slice none 0 0, .int .i64 0, .int .u32 0, .int .u32 0, .int .i64 0, .int .i64 0, .int .u32 0, .int .i64 0, .int .i64 0, .int .i64 0, .int .u32 0, .int .u64 0, .int .u64 0, .int .u64 0, .int .u64 0, .int .i64 0, .int .i64 0, .int .i64 0, .int .u32 0, .int .u32 0, .int .u8 0, .int .i64 0, .int .u32 0, .int .i64 0, .int .u32 0, .int .u32 0] 38 (0, 0)) by rw [hZ, hg]; exact heap_alloc_new _ _)
          have HLa := Lib.hid (show W.heap.size + 1 < ga by
            have h2 := (Array.getElem?_eq_some_iff.1 HS3.out.pq).1
            omega)
          have HNpa := Lib.hid (show ∀ k, (Value.slice sa M.rc.adjs.length sc).ownBlock = some k → k ≠ ga from fun k hk e => by
            have h1 := (Row.lt HRp3.out k hk).2
            omega)
          have HNqa := Lib.hid (show ∀ k, (Value.slice ta N.rc.adjs.length tc).ownBlock = some k → k ≠ ga from fun k hk e => by
            have h1 := (Row.lt HRq3.out k hk).2
            omega)
          have HAB := Lib.hid (show ga ≠ gb from fun e => by
            have h2 := (Array.getElem?_eq_some_iff.1 HGb3.out).1
            omega)
          rw [← hZ, ← hg]
          refine hK _ _ HS4.out ?_
          clear hK K hb hZ hg
          refine wpOQ_store rfl rfl (by kernel_rfl) 38 (.tmp 5) (.tmp 10) rfl ga rfl 38 _ (M.cs sa sc) rfl HGa4.out (info_msg' M sa sc) rfl (cs_one M sa sc) (HS4.out.setRow HLa.out) ?_
          refine wpOQ_store rfl rfl (by kernel_rfl) 38 (.tmp 6) (.tmp 12) rfl gb rfl 38 _ (N.cs ta tc) rfl ((setRow_other _ ga gb _ (fun e => HAB.out e.symm)).trans HGb4.out) (info_msg' N ta tc) rfl (cs_one N ta tc) ((HS4.out.setRow HLa.out).setRow HLb.out) ?_
          refine wpOQ_nil ?_
          go_wp2_with fail
          go_meet
          exact ⟨ga, gb, sa, sc, ta, tc, rfl, rfl, ot_end HS4.out.bel HGa4.out HGb4.out HRp4.out HRq4.out HNpa.out HNpb.out HNqa.out HNqb.out HAB.out HLa.out HLb.out⟩
        · skip
          apply wpOQ_do rfl (by kernel_rfl)
          intro K hK
          go_simp
          obtain ⟨ga, hg⟩ : ∃ g, g = Z2.heap.size := ⟨_, rfl⟩
          obtain ⟨Z3, hZ⟩ : ∃ X, X = Z2.alloc (.cells #[.int .i64 0, .int .i64 0, .int .u32 0, .int .u32 0, .int .i64 0, .bool false, .slice none 0 0, .int .i64 0, .int .u32 0, .int .u32 0, .int .i64 0, .int .i64 0, .int .u32 0, .int .i64 0, .int .i64 0, .int .i64 0, .int .u32 0, .int .u64 0, .int .u64 0, .int .u64 0, .int .u64 0, .int .i64 0, .int .i64 0, .int .i64 0, .int .u32 0, .int .u32 0, .int .u8 0, .int .i64 0, .int .u32 0, .int .i64 0, .int .u32 0, .int .u32 0] 38) := ⟨_, rfl⟩
          have hb : Below Z2.heap.size Z2 Z3 := by rw [hZ]; exact (Below.refl _ _).alloc (Nat.le_refl _) _
          have HS3 := Lib.hid (HS2.out.later hb)
          have HRp3 := Lib.hid (Row.later HRp2.out hb)
          have HGb3 := Lib.hid (blk HGb2.out hb)
          have HGa3 := Lib.hid (show Z3.heap[ga]? = some (.cells #[.int .i64 0, .int .i64 0, .int .u32 0, .int .u32 0, .int .i64 0, .bool false, .slice none 0 0, .int .i64 0, .int .u32 0, .int .u32 0, .int .i64 0, .int .i64 0, .int .u32 0, .int .i64 0, .int .i64 0, .int .i64 0, .int .u32 0, .int .u64 0, .int .u64 0, .int .u64 0, .int .u64 0, .int .i64 0, .int .i64 0, .int .i64 0, .int .u32 0, .int .u32 0, .int .u8 0, .int .i64 0, .int .u32 0, .int .i64 0, .int .u32 0, .int .u32 0] 38 (0, 0)) by rw [hZ, hg]; exact heap_alloc_new _ _)
          have HLa := Lib.hid (show W.heap.size + 1 < ga by
            have h2 := (Array.getElem?_eq_some_iff.1 HS2.out.pq).1
            omega)
          have HNpa := Lib.hid (show ∀ k, (Value.slice sa M.rc.adjs.length sc).ownBlock = some k → k ≠ ga from fun k hk e => by
            have h1 := (Row.lt HRp2.out k hk).2
            omega)
          have HAB := Lib.hid (show ga ≠ gb from fun e => by
            have h2 := (Array.getElem?_eq_some_iff.1 HGb2.out).1
            omega)
          rw [← hZ, ← hg]
          refine hK _ _ HS3.out ?_
          clear hK K hb hZ hg
          apply wpOQ_do rfl (by kernel_rfl)
          intro K hK
          go_simp
          refine (HOq.out Z3).mono ?_
          rintro e Z4 ⟨ta, tc, rfl, har, hb⟩
          unfold Ms.ag
          have HS4 := Lib.hid (HS3.out.later hb)
          have HRp4 := Lib.hid (Row.later HRp3.out hb)
          have HGa4 := Lib.hid (blk HGa3.out hb)
          have HGb4 := Lib.hid (blk HGb3.out hb)
          have HRq4 := Lib.hid har
          have HNqa := Lib.hid (show ∀ k, (Value.slice ta N.rc.adjs.length tc).ownBlock = some k → k ≠ ga from fun k hk e => by
            have h1 := (Row.lt har k hk).1
            have h2 := (Array.getElem?_eq_some_iff.1 HGa3.out).1
            omega)
          have HNqb := Lib.hid (show ∀ k, (Value.slice ta N.rc.adjs.length tc).ownBlock = some k → k ≠ gb from fun k hk e => by
            have h1 := (Row.lt har k hk).1
            have h2 := (Array.getElem?_eq_some_iff.1 HGb3.out).1
            omega)
          refine hK _ _ HS4.out ?_
          clear hK K hb har
          refine wpOQ_store rfl rfl (by kernel_rfl) 38 (.tmp 5) (.tmp 10) rfl ga rfl 38 _ (M.cs sa sc) rfl HGa4.out (info_msg' M sa sc) rfl (cs_one M sa sc) (HS4.out.setRow HLa.out) ?_
          refine wpOQ_store rfl rfl (by kernel_rfl) 38 (.tmp 6) (.tmp 12) rfl gb rfl 38 _ (N.cs ta tc) rfl ((setRow_other _ ga gb _ (fun e => HAB.out e.symm)).trans HGb4.out) (info_msg' N ta tc) rfl (cs_one N ta tc) ((HS4.out.setRow HLa.out).setRow HLb.out) ?_
          refine wpOQ_nil ?_
          go_wp2_with fail
          go_meet
          exact ⟨ga, gb, sa, sc, ta, tc, rfl, rfl, ot_end HS4.out.bel HGa4.out HGb4.out HRp4.out HRq4.out HNpa.out HNpb.out HNqa.out HNqb.out HAB.out HLa.out HLb.out⟩
      · skip
        apply wpOQ_do rfl (by kernel_rfl)
        intro K hK
        go_simp
        obtain ⟨ga, hg⟩ : ∃ g, g = Z1.heap.size := ⟨_, rfl⟩
        obtain ⟨Z2, hZ⟩ : ∃ X, X = Z1.alloc (.cells #[.int .i64 0, .int .i64 0, .int .u32 0, .int .u32 0, .int .i64 0, .bool false, .slice none 0 0, .int .i64 0, .int .u32 0, .int .u32 0, .int .i64 0, .int .i64 0, .int .u32 0, .int .i64 0, .int .i64 0, .int .i64 0, .int .u32 0, .int .u64 0, .int .u64 0, .int .u64 0, .int .u64 0, .int .i64 0, .int .i64 0, .int .i64 0, .int .u32 0, .int .u32 0, .int .u8 0, .int .i64 0, .int .u32 0, .int .i64 0, .int .u32 0, .int .u32 0] 38) := ⟨_, rfl⟩
        have hb : Below Z1.heap.size Z1 Z2 := by rw [hZ]; exact (Below.refl _ _).alloc (Nat.le_refl _) _
        have HS2 := Lib.hid (HS1.out.later hb)
        have HGb2 := Lib.hid (blk HGb1.out hb)
        have HGa2 := Lib.hid (show Z2.heap[ga]? = some (.cells #[.int .i64 0, .int .i64 0, .int .u32 0, .int .u32 0, .int .i64 0, .bool false, .slice none 0 0, .int .i64 0, .int .u32 0, .int .u32 0, .int .i64 0, .int .i64 0, .int .u32 0, .int .i64 0, .int .i64 0, .int .i64 0, .int .u32 0, .int .u64 0, .int .u64 0, .int .u64 0, .int .u64 0, .int .i64 0, .int .i64 0, .int .i64 0, .int .u32 0, .int .u32 0, .int .u8 0, .int .i64 0, .int .u32 0, .int .i64 0, .int .u32 0, .int .u32 0] 38 (0, 0)) by rw [hZ, hg]; exact heap_alloc_new _ _)
        have HLa := Lib.hid (show W.heap.size + 1 < ga by
          have h2 := (Array.getElem?_eq_some_iff.1 HS1.out.pq).1
          omega)
        have HAB := Lib.hid (show ga ≠ gb from fun e => by
          have h2 := (Array.getElem?_eq_some_iff.1 HGb1.out).1
          omega)
        rw [← hZ, ← hg]
        refine hK _ _ HS2.out ?_
        clear hK K hb hZ hg
        apply wpOQ_do rfl (by kernel_rfl)
        intro K hK
        go_simp
        refine (HOp.out Z2).mono ?_
        rintro e Z3 ⟨sa, sc, rfl, har, hb⟩
        unfold Ms.ag
        have HS3 := Lib.hid (HS2.out.later hb)
        have HGa3 := Lib.hid (blk HGa2.out hb)
        have HGb3 := Lib.hid (blk HGb2.out hb)
        have HRp3 := Lib.hid har
        have HNpa := Lib.hid (show ∀ k, (Value.slice sa M.rc.adjs.length sc).ownBlock = some k → k ≠ ga from fun k hk e => by
          have h1 := (Row.lt har k hk).1
          have h2 := (Array.getElem?_eq_some_iff.1 HGa2.out).1
          omega)
        have HNpb := Lib.hid (show ∀ k, (Value.slice sa M.rc.adjs.length sc).ownBlock = some k → k ≠ gb from fun k hk e => by
          have h1 := (Row.lt har k hk).1
          have h2 := (Array.getElem?_eq_some_iff.1 HGb2.out).1
          omega)
        refine hK _ _ HS3.out ?_
        clear hK K hb har
        apply wpOQ_do rfl (by kernel_rfl)
        intro K hK
        go_simp
        refine (HOq.out Z3).mono ?_
        rintro e Z4 ⟨ta, tc, rfl, har, hb⟩
        unfold Ms.ag
        have HS4 := Lib.hid (HS3.out.later hb)
        have HRp4 := Lib.hid (Row.later HRp3.out hb)
        have HGa4 := Lib.hid (blk HGa3.out hb)
        have HGb4 := Lib.hid (blk HGb3.out hb)
        have HRq4 := Lib.hid har
        have HNqa := Lib.hid (show ∀ k, (Value.slice ta N.rc.adjs.length tc).ownBlock = some k → k ≠ ga from fun k hk e => by
          have h1 := (Row.lt har k hk).1
          have h2 := (Array.getElem?_eq_some_iff.1 HGa3.out).1
          omega)
        have HNqb := Lib.hid (show ∀ k, (Value.slice ta N.rc.adjs.length tc).ownBlock = some k → k ≠ gb from fun k hk e => by
          have h1 := (Row.lt har k hk).1
          have h2 := (Array.getElem?_eq_some_iff.1 HGb3.out).1
          omega)
        refine hK _ _ HS4.out ?_
        clear hK K hb har
        refine wpOQ_store rfl rfl (by kernel_rfl) 38 (.tmp 5) (.tmp 10) rfl ga rfl 38 _ (M.cs sa sc) rfl HGa4.out (info_msg' M sa sc) rfl (cs_one M sa sc) (HS4.out.setRow HLa.out) ?_
        refine wpOQ_store rfl rfl (by kernel_rfl) 38 (.tmp 6) (.tmp 12) rfl gb rfl 38 _ (N.cs ta tc) rfl ((setRow_other _ ga gb _ (fun e => HAB.out e.symm)).trans HGb4.out) (info_msg' N ta tc) rfl (cs_one N ta tc) ((HS4.out.setRow HLa.out).setRow HLb.out) ?_
        refine wpOQ_nil ?_
        go_wp2_with fail
        go_meet
        exact ⟨ga, gb, sa, sc, ta, tc, rfl, rfl, ot_end HS4.out.bel HGa4.out HGb4.out HRp4.out HRq4.out HNpa.out HNpb.out HNqa.out HNqb.out HAB.out HLa.out HLb.out⟩
  case rest =>
    obtain ⟨g1, g2, sa, sc, ta, tc, rfl, rfl, hR⟩ := hcut
    have HR := Lib.hid hR
    have x0 : wc.cell? ⟨g1, 0, none⟩ = some (.int .i64 M.kd) := hR.b1.cell rfl
    have y0 : wc.cell? ⟨g2, 0, none⟩ = some (.int .i64 N.kd) := hR.b2.cell rfl
    clear hR
    by_cases hkk : M.kd = N.kd
    · obtain ⟨kd, hkd⟩ : ∃ k, k = N.kd := ⟨_, rfl⟩
      rw [hkk] at x0
      rw [← hkd] at x0 y0
      clear hkk hkd
      go_wp2_with fail
      refine (works_any _).mono ?_
      rintro e V9 ⟨rfl, hb⟩
      have HB9 := Lib.hid (HR.out.bel.trans (hb.mono HR.out.bel.size))
      clear hb
      go_wp2_with fail
      go_returns
      exact ⟨rfl, HB9.out⟩
    have HKK := Lib.hid hkk
    have hk5 := (chk_kd HNC.out).1
    rcases hk5 with hk | hk | hk | hk | hk
    · have HOT := Lib.hid (oth1 HMC.out HNC.out hk HKK.out)
      have e1 : (M.kd == 1) = false := by rw [beq_eq_false_iff_ne, ← hk]; exact HKK.out
      have ne1 : ¬ M.kd = 1 := by rw [← hk]; exact HKK.out
      rw [hk] at y0
      have y1 : wc.cell? ⟨g2, 1, none⟩ = some (.int .i64 N.rc.org) := HR.out.b2.cell rfl
      have x1 : wc.cell? ⟨g1, 1, none⟩ = some (.int .i64 M.rc.org) := HR.out.b1.cell rfl
      have f1 : wc.frozen? ⟨g1, 1, none⟩ = false := HR.out.b1.frz 1
      have y2 : wc.cell? ⟨g2, 2, none⟩ = some (.int .u32 N.rc.ep) := HR.out.b2.cell rfl
      have x2 : wc.cell? ⟨g1, 2, none⟩ = some (.int .u32 M.rc.ep) := HR.out.b1.cell rfl
      have f2 : wc.frozen? ⟨g1, 2, none⟩ = false := HR.out.b1.frz 2
      have y3 : wc.cell? ⟨g2, 3, none⟩ = some (.int .u32 N.rc.sq) := HR.out.b2.cell rfl
      have x3 : wc.cell? ⟨g1, 3, none⟩ = some (.int .u32 M.rc.sq) := HR.out.b1.cell rfl
      have f3 : wc.frozen? ⟨g1, 3, none⟩ = false := HR.out.b1.frz 3
      have y4 : wc.cell? ⟨g2, 4, none⟩ = some (.int .i64 N.rc.clm) := HR.out.b2.cell rfl
      have x4 : wc.cell? ⟨g1, 4, none⟩ = some (.int .i64 M.rc.clm) := HR.out.b1.cell rfl
      have f4 : wc.frozen? ⟨g1, 4, none⟩ = false := HR.out.b1.frz 4
      have y5 : wc.cell? ⟨g2, 5, none⟩ = some (.bool N.rc.ing) := HR.out.b2.cell rfl
      have x5 : wc.cell? ⟨g1, 5, none⟩ = some (.bool M.rc.ing) := HR.out.b1.cell rfl
      have f5 : wc.frozen? ⟨g1, 5, none⟩ = false := HR.out.b1.frz 5
      have y6 : wc.cell? ⟨g2, 6, none⟩ = some (.slice ta N.rc.adjs.length tc) := HR.out.b2.cell rfl
      have x6 : wc.cell? ⟨g1, 6, none⟩ = some (.slice sa M.rc.adjs.length sc) := HR.out.b1.cell rfl
      have f6 : wc.frozen? ⟨g1, 6, none⟩ = false := HR.out.b1.frz 6
      obtain ⟨D, hD⟩ : ∃ D : Ms, D = { M with rc := N.rc } := ⟨_, rfl⟩
      obtain ⟨Z, hZ⟩ : ∃ Z, Z = ((((((wc.setCell ⟨g1, 1, none⟩ (.int .i64 N.rc.org)).setCell ⟨g1, 2, none⟩ (.int .u32 N.rc.ep)).setCell ⟨g1, 3, none⟩ (.int .u32 N.rc.sq)).setCell ⟨g1, 4, none⟩ (.int .i64 N.rc.clm)).setCell ⟨g1, 5, none⟩ (.bool N.rc.ing)).setCell ⟨g1, 6, none⟩ (.slice ta N.rc.adjs.length tc)) := ⟨_, rfl⟩
      have HBX := Lib.hid (show BoxM g1 D ta tc Z from by
        rw [hD, hZ]
        have h := (heap_setCell_same _ g1 6 _ _ (.slice ta N.rc.adjs.length tc) (heap_setCell_same _ g1 5 _ _ (.bool N.rc.ing) (heap_setCell_same _ g1 4 _ _ (.int .i64 N.rc.clm) (heap_setCell_same _ g1 3 _ _ (.int .u32 N.rc.sq) (heap_setCell_same _ g1 2 _ _ (.int .u32 N.rc.ep) (heap_setCell_same _ g1 1 _ _ (.int .i64 N.rc.org) HR.out.b1))))))
        unfold Ms.cs at h
        simp only [List.setIfInBounds_toArray, List.set_cons_succ, List.set_cons_zero] at h
        unfold BoxM Ms.cs
        exact h)
      have HBZ := Lib.hid (show Below W.heap.size W Z from by
        rw [hZ]
        have hlo := HR.out.lo
        repeat (with_reducible refine Below.setCell ?_ (by simp only; omega) _)
        exact HR.out.bel)
      have HAZ := Lib.hid (show AdjsIn Z ta D.rc.adjs from by
        obtain ⟨B, hB⟩ := HR.out.r2
        rw [hD]
        refine ARow.adjs (B := B) (sc := tc) (hB.same fun j hj => ?_)
        have hne := HR.out.n2 j hj
        rw [hZ]
        iterate 6 rw [heap_setCell_other _ _ _ _ hne])
      have hDo : D.ok := by
        obtain ⟨q1, q2, q3, q4, q5, q6, q7, q8⟩ := HMO.out
        obtain ⟨s1, s2, s3, s4, s5, s6, s7, s8⟩ := HNO.out
        rw [hD]
        exact ⟨q1, s2, q3, q4, q5, q6, q7, q8⟩
      have hDc : D.chk = false := by rw [hD]; exact HOT.out
      have hDl : D.rc.adjs.length ≤ maxLen := by
        have h16 : ∀ X : Ms, X.chk = true → X.rc.adjs.length ≤ maxLen := adj_le
        rw [hD]
        exact h16 N HNC.out
      have HEN := Lib.hid (show ∀ V, AdjsIn V ta D.rc.adjs → Calls Try.prog 9 #[.agg (D.cs ta tc)] V (fun e X => e = .returned (.tuple #[.string ⟨#[]⟩, .int .i64 2]) ∧ Below V.heap.size V X) from fun V hA => by
        have h := mencode_any D ta tc V hDo hA hDl
        unfold Ms.encS Ms.err at h
        rw [hDc, if_neg (by decide), if_neg (by decide)] at h
        exact h)
      have HCH := Lib.hid (show ∀ V, AdjsIn V ta D.rc.adjs → Calls Try.prog 11 #[.agg (D.cs ta tc)] V (fun e X => e = .returned (.int .i64 2) ∧ Below V.heap.size V X) from fun V hA => by
        have h := mcheck_any D ta tc V hDo hA hDl
        unfold Ms.err at h
        rw [hDc, if_neg (by decide)] at h
        exact h)
      have HZE := Lib.hid hZ
      have HC1 := Lib.hid (block_cells HBX.out)
      have HGI := Lib.hid (info_msg D ta tc)
      clear hD hZ hDo hDc hDl hk hkk
      go_upto_region 14 with fail
      rw [← HZE.out]
      clear x0 y0 x1 y1 f1 x2 y2 f2 x3 y3 f3 x4 y4 f4 x5 y5 f5 x6 y6 f6
      go_wp2_with ((with_reducible refine wpList_load_cs rfl 38 (.tmp 5) rfl ⟨g1, 0, none⟩ rfl (D.cs ta tc).toList _ HC1.out Try.underlying38 rfl HGI.out ?_); rw [Array.toArray_toList])
      refine (HEN.out Z HAZ.out).mono ?_
      rintro e V2 ⟨rfl, hb⟩
      have HB2 := Lib.hid (HBZ.out.trans (hb.mono HBZ.out.size))
      have HC2 := Lib.hid (block_cells (HBX.out.later hb))
      have HA2 := Lib.hid (HAZ.out.later hb)
      clear hb
      go_wp2_with ((with_reducible refine wpList_load_cs rfl 38 (.tmp 5) rfl ⟨g1, 0, none⟩ rfl (D.cs ta tc).toList _ HC2.out Try.underlying38 rfl HGI.out ?_); rw [Array.toArray_toList])
      refine (HCH.out V2 HA2.out).mono ?_
      rintro e V3 ⟨rfl, hb⟩
      have HB3 := Lib.hid (HB2.out.trans (hb.mono HB2.out.size))
      clear hb
      go_wp2_with fail
      refine (works_any _).mono ?_
      rintro e V9 ⟨rfl, hb⟩
      have HB9 := Lib.hid (HB3.out.trans (hb.mono HB3.out.size))
      clear hb
      go_wp2_with fail
      go_returns
      exact ⟨rfl, HB9.out⟩
    · have HOT := Lib.hid (oth2 HMC.out HNC.out hk HKK.out)
      have e1 : (M.kd == 2) = false := by rw [beq_eq_false_iff_ne, ← hk]; exact HKK.out
      have ne1 : ¬ M.kd = 2 := by rw [← hk]; exact HKK.out
      rw [hk] at y0
      have y7 : wc.cell? ⟨g2, 7, none⟩ = some (.int .i64 N.st.org) := HR.out.b2.cell rfl
      have x7 : wc.cell? ⟨g1, 7, none⟩ = some (.int .i64 M.st.org) := HR.out.b1.cell rfl
      have f7 : wc.frozen? ⟨g1, 7, none⟩ = false := HR.out.b1.frz 7
      have y8 : wc.cell? ⟨g2, 8, none⟩ = some (.int .u32 N.st.ep) := HR.out.b2.cell rfl
      have x8 : wc.cell? ⟨g1, 8, none⟩ = some (.int .u32 M.st.ep) := HR.out.b1.cell rfl
      have f8 : wc.frozen? ⟨g1, 8, none⟩ = false := HR.out.b1.frz 8
      have y9 : wc.cell? ⟨g2, 9, none⟩ = some (.int .u32 N.st.sq) := HR.out.b2.cell rfl
      have x9 : wc.cell? ⟨g1, 9, none⟩ = some (.int .u32 M.st.sq) := HR.out.b1.cell rfl
      have f9 : wc.frozen? ⟨g1, 9, none⟩ = false := HR.out.b1.frz 9
      obtain ⟨D, hD⟩ : ∃ D : Ms, D = { M with st := N.st } := ⟨_, rfl⟩
      obtain ⟨Z, hZ⟩ : ∃ Z, Z = (((wc.setCell ⟨g1, 7, none⟩ (.int .i64 N.st.org)).setCell ⟨g1, 8, none⟩ (.int .u32 N.st.ep)).setCell ⟨g1, 9, none⟩ (.int .u32 N.st.sq)) := ⟨_, rfl⟩
      have HBX := Lib.hid (show BoxM g1 D sa sc Z from by
        rw [hD, hZ]
        have h := (heap_setCell_same _ g1 9 _ _ (.int .u32 N.st.sq) (heap_setCell_same _ g1 8 _ _ (.int .u32 N.st.ep) (heap_setCell_same _ g1 7 _ _ (.int .i64 N.st.org) HR.out.b1)))
        unfold Ms.cs at h
        simp only [List.setIfInBounds_toArray, List.set_cons_succ, List.set_cons_zero] at h
        unfold BoxM Ms.cs
        exact h)
      have HBZ := Lib.hid (show Below W.heap.size W Z from by
        rw [hZ]
        have hlo := HR.out.lo
        repeat (with_reducible refine Below.setCell ?_ (by simp only; omega) _)
        exact HR.out.bel)
      have HAZ := Lib.hid (show AdjsIn Z sa D.rc.adjs from by
        obtain ⟨B, hB⟩ := HR.out.r1
        rw [hD]
        refine ARow.adjs (B := B) (sc := sc) (hB.same fun j hj => ?_)
        have hne := HR.out.n1 j hj
        rw [hZ]
        iterate 3 rw [heap_setCell_other _ _ _ _ hne])
      have hDo : D.ok := by
        obtain ⟨q1, q2, q3, q4, q5, q6, q7, q8⟩ := HMO.out
        obtain ⟨s1, s2, s3, s4, s5, s6, s7, s8⟩ := HNO.out
        rw [hD]
        exact ⟨q1, q2, s3, q4, q5, q6, q7, q8⟩
      have hDc : D.chk = false := by rw [hD]; exact HOT.out
      have hDl : D.rc.adjs.length ≤ maxLen := by
        have h16 : ∀ X : Ms, X.chk = true → X.rc.adjs.length ≤ maxLen := adj_le
        rw [hD]
        exact h16 M HMC.out
      have HEN := Lib.hid (show ∀ V, AdjsIn V sa D.rc.adjs → Calls Try.prog 9 #[.agg (D.cs sa sc)] V (fun e X => e = .returned (.tuple #[.string ⟨#[]⟩, .int .i64 2]) ∧ Below V.heap.size V X) from fun V hA => by
        have h := mencode_any D sa sc V hDo hA hDl
        unfold Ms.encS Ms.err at h
        rw [hDc, if_neg (by decide), if_neg (by decide)] at h
        exact h)
      have HCH := Lib.hid (show ∀ V, AdjsIn V sa D.rc.adjs → Calls Try.prog 11 #[.agg (D.cs sa sc)] V (fun e X => e = .returned (.int .i64 2) ∧ Below V.heap.size V X) from fun V hA => by
        have h := mcheck_any D sa sc V hDo hA hDl
        unfold Ms.err at h
        rw [hDc, if_neg (by decide)] at h
        exact h)
      have HZE := Lib.hid hZ
      have HC1 := Lib.hid (block_cells HBX.out)
      have HGI := Lib.hid (info_msg D sa sc)
      clear hD hZ hDo hDc hDl hk hkk
      go_upto_region 14 with fail
      rw [← HZE.out]
      clear x0 y0 x7 y7 f7 x8 y8 f8 x9 y9 f9
      go_wp2_with ((with_reducible refine wpList_load_cs rfl 38 (.tmp 5) rfl ⟨g1, 0, none⟩ rfl (D.cs sa sc).toList _ HC1.out Try.underlying38 rfl HGI.out ?_); rw [Array.toArray_toList])
      refine (HEN.out Z HAZ.out).mono ?_
      rintro e V2 ⟨rfl, hb⟩
      have HB2 := Lib.hid (HBZ.out.trans (hb.mono HBZ.out.size))
      have HC2 := Lib.hid (block_cells (HBX.out.later hb))
      have HA2 := Lib.hid (HAZ.out.later hb)
      clear hb
      go_wp2_with ((with_reducible refine wpList_load_cs rfl 38 (.tmp 5) rfl ⟨g1, 0, none⟩ rfl (D.cs sa sc).toList _ HC2.out Try.underlying38 rfl HGI.out ?_); rw [Array.toArray_toList])
      refine (HCH.out V2 HA2.out).mono ?_
      rintro e V3 ⟨rfl, hb⟩
      have HB3 := Lib.hid (HB2.out.trans (hb.mono HB2.out.size))
      clear hb
      go_wp2_with fail
      refine (works_any _).mono ?_
      rintro e V9 ⟨rfl, hb⟩
      have HB9 := Lib.hid (HB3.out.trans (hb.mono HB3.out.size))
      clear hb
      go_wp2_with fail
      go_returns
      exact ⟨rfl, HB9.out⟩
    · have HOT := Lib.hid (oth3 HMC.out HNC.out hk HKK.out)
      have e1 : (M.kd == 3) = false := by rw [beq_eq_false_iff_ne, ← hk]; exact HKK.out
      have ne1 : ¬ M.kd = 3 := by rw [← hk]; exact HKK.out
      rw [hk] at y0
      have y10 : wc.cell? ⟨g2, 10, none⟩ = some (.int .i64 N.hd.wid) := HR.out.b2.cell rfl
      have x10 : wc.cell? ⟨g1, 10, none⟩ = some (.int .i64 M.hd.wid) := HR.out.b1.cell rfl
      have f10 : wc.frozen? ⟨g1, 10, none⟩ = false := HR.out.b1.frz 10
      have y11 : wc.cell? ⟨g2, 11, none⟩ = some (.int .i64 N.hd.set) := HR.out.b2.cell rfl
      have x11 : wc.cell? ⟨g1, 11, none⟩ = some (.int .i64 M.hd.set) := HR.out.b1.cell rfl
      have f11 : wc.frozen? ⟨g1, 11, none⟩ = false := HR.out.b1.frz 11
      have y12 : wc.cell? ⟨g2, 12, none⟩ = some (.int .u32 N.hd.ent) := HR.out.b2.cell rfl
      have x12 : wc.cell? ⟨g1, 12, none⟩ = some (.int .u32 M.hd.ent) := HR.out.b1.cell rfl
      have f12 : wc.frozen? ⟨g1, 12, none⟩ = false := HR.out.b1.frz 12
      have y13 : wc.cell? ⟨g2, 13, none⟩ = some (.int .i64 N.hd.hops) := HR.out.b2.cell rfl
      have x13 : wc.cell? ⟨g1, 13, none⟩ = some (.int .i64 M.hd.hops) := HR.out.b1.cell rfl
      have f13 : wc.frozen? ⟨g1, 13, none⟩ = false := HR.out.b1.frz 13
      have y14 : wc.cell? ⟨g2, 14, none⟩ = some (.int .i64 N.hd.src) := HR.out.b2.cell rfl
      have x14 : wc.cell? ⟨g1, 14, none⟩ = some (.int .i64 M.hd.src) := HR.out.b1.cell rfl
      have f14 : wc.frozen? ⟨g1, 14, none⟩ = false := HR.out.b1.frz 14
      have y15 : wc.cell? ⟨g2, 15, none⟩ = some (.int .i64 N.hd.grp) := HR.out.b2.cell rfl
      have x15 : wc.cell? ⟨g1, 15, none⟩ = some (.int .i64 M.hd.grp) := HR.out.b1.cell rfl
      have f15 : wc.frozen? ⟨g1, 15, none⟩ = false := HR.out.b1.frz 15
      have y16 : wc.cell? ⟨g2, 16, none⟩ = some (.int .u32 N.hd.id) := HR.out.b2.cell rfl
      have x16 : wc.cell? ⟨g1, 16, none⟩ = some (.int .u32 M.hd.id) := HR.out.b1.cell rfl
      have f16 : wc.frozen? ⟨g1, 16, none⟩ = false := HR.out.b1.frz 16
      have y17 : wc.cell? ⟨g2, 17, none⟩ = some (.int .u64 N.hd.bits.a) := HR.out.b2.cell rfl
      have x17 : wc.cell? ⟨g1, 17, none⟩ = some (.int .u64 M.hd.bits.a) := HR.out.b1.cell rfl
      have f17 : wc.frozen? ⟨g1, 17, none⟩ = false := HR.out.b1.frz 17
      have y18 : wc.cell? ⟨g2, 18, none⟩ = some (.int .u64 N.hd.bits.b) := HR.out.b2.cell rfl
      have x18 : wc.cell? ⟨g1, 18, none⟩ = some (.int .u64 M.hd.bits.b) := HR.out.b1.cell rfl
      have f18 : wc.frozen? ⟨g1, 18, none⟩ = false := HR.out.b1.frz 18
      have y19 : wc.cell? ⟨g2, 19, none⟩ = some (.int .u64 N.hd.bits.c) := HR.out.b2.cell rfl
      have x19 : wc.cell? ⟨g1, 19, none⟩ = some (.int .u64 M.hd.bits.c) := HR.out.b1.cell rfl
      have f19 : wc.frozen? ⟨g1, 19, none⟩ = false := HR.out.b1.frz 19
      have y20 : wc.cell? ⟨g2, 20, none⟩ = some (.int .u64 N.hd.bits.d) := HR.out.b2.cell rfl
      have x20 : wc.cell? ⟨g1, 20, none⟩ = some (.int .u64 M.hd.bits.d) := HR.out.b1.cell rfl
      have f20 : wc.frozen? ⟨g1, 20, none⟩ = false := HR.out.b1.frz 20
      obtain ⟨D, hD⟩ : ∃ D : Ms, D = { M with hd := N.hd } := ⟨_, rfl⟩
      obtain ⟨Z, hZ⟩ : ∃ Z, Z = (((((((((((wc.setCell ⟨g1, 10, none⟩ (.int .i64 N.hd.wid)).setCell ⟨g1, 11, none⟩ (.int .i64 N.hd.set)).setCell ⟨g1, 12, none⟩ (.int .u32 N.hd.ent)).setCell ⟨g1, 13, none⟩ (.int .i64 N.hd.hops)).setCell ⟨g1, 14, none⟩ (.int .i64 N.hd.src)).setCell ⟨g1, 15, none⟩ (.int .i64 N.hd.grp)).setCell ⟨g1, 16, none⟩ (.int .u32 N.hd.id)).setCell ⟨g1, 17, none⟩ (.int .u64 N.hd.bits.a)).setCell ⟨g1, 18, none⟩ (.int .u64 N.hd.bits.b)).setCell ⟨g1, 19, none⟩ (.int .u64 N.hd.bits.c)).setCell ⟨g1, 20, none⟩ (.int .u64 N.hd.bits.d)) := ⟨_, rfl⟩
      have HBX := Lib.hid (show BoxM g1 D sa sc Z from by
        rw [hD, hZ]
        have h := (heap_setCell_same _ g1 20 _ _ (.int .u64 N.hd.bits.d) (heap_setCell_same _ g1 19 _ _ (.int .u64 N.hd.bits.c) (heap_setCell_same _ g1 18 _ _ (.int .u64 N.hd.bits.b) (heap_setCell_same _ g1 17 _ _ (.int .u64 N.hd.bits.a) (heap_setCell_same _ g1 16 _ _ (.int .u32 N.hd.id) (heap_setCell_same _ g1 15 _ _ (.int .i64 N.hd.grp) (heap_setCell_same _ g1 14 _ _ (.int .i64 N.hd.src) (heap_setCell_same _ g1 13 _ _ (.int .i64 N.hd.hops) (heap_setCell_same _ g1 12 _ _ (.int .u32 N.hd.ent) (heap_setCell_same _ g1 11 _ _ (.int .i64 N.hd.set) (heap_setCell_same _ g1 10 _ _ (.int .i64 N.hd.wid) HR.out.b1)))))))))))
        unfold Ms.cs at h
        simp only [List.setIfInBounds_toArray, List.set_cons_succ, List.set_cons_zero] at h
        unfold BoxM Ms.cs
        exact h)
      have HBZ := Lib.hid (show Below W.heap.size W Z from by
        rw [hZ]
        have hlo := HR.out.lo
        repeat (with_reducible refine Below.setCell ?_ (by simp only; omega) _)
        exact HR.out.bel)
      have HAZ := Lib.hid (show AdjsIn Z sa D.rc.adjs from by
        obtain ⟨B, hB⟩ := HR.out.r1
        rw [hD]
        refine ARow.adjs (B := B) (sc := sc) (hB.same fun j hj => ?_)
        have hne := HR.out.n1 j hj
        rw [hZ]
        iterate 11 rw [heap_setCell_other _ _ _ _ hne])
      have hDo : D.ok := by
        obtain ⟨q1, q2, q3, q4, q5, q6, q7, q8⟩ := HMO.out
        obtain ⟨s1, s2, s3, s4, s5, s6, s7, s8⟩ := HNO.out
        rw [hD]
        exact ⟨q1, q2, q3, s4, q5, q6, q7, q8⟩
      have hDc : D.chk = false := by rw [hD]; exact HOT.out
      have hDl : D.rc.adjs.length ≤ maxLen := by
        have h16 : ∀ X : Ms, X.chk = true → X.rc.adjs.length ≤ maxLen := adj_le
        rw [hD]
        exact h16 M HMC.out
      have HEN := Lib.hid (show ∀ V, AdjsIn V sa D.rc.adjs → Calls Try.prog 9 #[.agg (D.cs sa sc)] V (fun e X => e = .returned (.tuple #[.string ⟨#[]⟩, .int .i64 2]) ∧ Below V.heap.size V X) from fun V hA => by
        have h := mencode_any D sa sc V hDo hA hDl
        unfold Ms.encS Ms.err at h
        rw [hDc, if_neg (by decide), if_neg (by decide)] at h
        exact h)
      have HCH := Lib.hid (show ∀ V, AdjsIn V sa D.rc.adjs → Calls Try.prog 11 #[.agg (D.cs sa sc)] V (fun e X => e = .returned (.int .i64 2) ∧ Below V.heap.size V X) from fun V hA => by
        have h := mcheck_any D sa sc V hDo hA hDl
        unfold Ms.err at h
        rw [hDc, if_neg (by decide)] at h
        exact h)
      have HZE := Lib.hid hZ
      have HC1 := Lib.hid (block_cells HBX.out)
      have HGI := Lib.hid (info_msg D sa sc)
      clear hD hZ hDo hDc hDl hk hkk
      go_upto_region 14 with fail
      rw [← HZE.out]
      clear x0 y0 x10 y10 f10 x11 y11 f11 x12 y12 f12 x13 y13 f13 x14 y14 f14 x15 y15 f15 x16 y16 f16 x17 y17 f17 x18 y18 f18 x19 y19 f19 x20 y20 f20
      go_wp2_with ((with_reducible refine wpList_load_cs rfl 38 (.tmp 5) rfl ⟨g1, 0, none⟩ rfl (D.cs sa sc).toList _ HC1.out Try.underlying38 rfl HGI.out ?_); rw [Array.toArray_toList])
      refine (HEN.out Z HAZ.out).mono ?_
      rintro e V2 ⟨rfl, hb⟩
      have HB2 := Lib.hid (HBZ.out.trans (hb.mono HBZ.out.size))
      have HC2 := Lib.hid (block_cells (HBX.out.later hb))
      have HA2 := Lib.hid (HAZ.out.later hb)
      clear hb
      go_wp2_with ((with_reducible refine wpList_load_cs rfl 38 (.tmp 5) rfl ⟨g1, 0, none⟩ rfl (D.cs sa sc).toList _ HC2.out Try.underlying38 rfl HGI.out ?_); rw [Array.toArray_toList])
      refine (HCH.out V2 HA2.out).mono ?_
      rintro e V3 ⟨rfl, hb⟩
      have HB3 := Lib.hid (HB2.out.trans (hb.mono HB2.out.size))
      clear hb
      go_wp2_with fail
      refine (works_any _).mono ?_
      rintro e V9 ⟨rfl, hb⟩
      have HB9 := Lib.hid (HB3.out.trans (hb.mono HB3.out.size))
      clear hb
      go_wp2_with fail
      go_returns
      exact ⟨rfl, HB9.out⟩
    · have HOT := Lib.hid (oth4 HMC.out HNC.out hk HKK.out)
      have e1 : (M.kd == 4) = false := by rw [beq_eq_false_iff_ne, ← hk]; exact HKK.out
      have ne1 : ¬ M.kd = 4 := by rw [← hk]; exact HKK.out
      rw [hk] at y0
      have y23 : wc.cell? ⟨g2, 23, none⟩ = some (.int .i64 N.wi.frm) := HR.out.b2.cell rfl
      have x23 : wc.cell? ⟨g1, 23, none⟩ = some (.int .i64 M.wi.frm) := HR.out.b1.cell rfl
      have f23 : wc.frozen? ⟨g1, 23, none⟩ = false := HR.out.b1.frz 23
      have y24 : wc.cell? ⟨g2, 24, none⟩ = some (.int .u32 N.wi.ep) := HR.out.b2.cell rfl
      have x24 : wc.cell? ⟨g1, 24, none⟩ = some (.int .u32 M.wi.ep) := HR.out.b1.cell rfl
      have f24 : wc.frozen? ⟨g1, 24, none⟩ = false := HR.out.b1.frz 24
      have y25 : wc.cell? ⟨g2, 25, none⟩ = some (.int .u32 N.wi.ver) := HR.out.b2.cell rfl
      have x25 : wc.cell? ⟨g1, 25, none⟩ = some (.int .u32 M.wi.ver) := HR.out.b1.cell rfl
      have f25 : wc.frozen? ⟨g1, 25, none⟩ = false := HR.out.b1.frz 25
      have y26 : wc.cell? ⟨g2, 26, none⟩ = some (.int .u8 N.wi.grp) := HR.out.b2.cell rfl
      have x26 : wc.cell? ⟨g1, 26, none⟩ = some (.int .u8 M.wi.grp) := HR.out.b1.cell rfl
      have f26 : wc.frozen? ⟨g1, 26, none⟩ = false := HR.out.b1.frz 26
      obtain ⟨D, hD⟩ : ∃ D : Ms, D = { M with wi := N.wi } := ⟨_, rfl⟩
      obtain ⟨Z, hZ⟩ : ∃ Z, Z = ((((wc.setCell ⟨g1, 23, none⟩ (.int .i64 N.wi.frm)).setCell ⟨g1, 24, none⟩ (.int .u32 N.wi.ep)).setCell ⟨g1, 25, none⟩ (.int .u32 N.wi.ver)).setCell ⟨g1, 26, none⟩ (.int .u8 N.wi.grp)) := ⟨_, rfl⟩
      have HBX := Lib.hid (show BoxM g1 D sa sc Z from by
        rw [hD, hZ]
        have h := (heap_setCell_same _ g1 26 _ _ (.int .u8 N.wi.grp) (heap_setCell_same _ g1 25 _ _ (.int .u32 N.wi.ver) (heap_setCell_same _ g1 24 _ _ (.int .u32 N.wi.ep) (heap_setCell_same _ g1 23 _ _ (.int .i64 N.wi.frm) HR.out.b1))))
        unfold Ms.cs at h
        simp only [List.setIfInBounds_toArray, List.set_cons_succ, List.set_cons_zero] at h
        unfold BoxM Ms.cs
        exact h)
      have HBZ := Lib.hid (show Below W.heap.size W Z from by
        rw [hZ]
        have hlo := HR.out.lo
        repeat (with_reducible refine Below.setCell ?_ (by simp only; omega) _)
        exact HR.out.bel)
      have HAZ := Lib.hid (show AdjsIn Z sa D.rc.adjs from by
        obtain ⟨B, hB⟩ := HR.out.r1
        rw [hD]
        refine ARow.adjs (B := B) (sc := sc) (hB.same fun j hj => ?_)
        have hne := HR.out.n1 j hj
        rw [hZ]
        iterate 4 rw [heap_setCell_other _ _ _ _ hne])
      have hDo : D.ok := by
        obtain ⟨q1, q2, q3, q4, q5, q6, q7, q8⟩ := HMO.out
        obtain ⟨s1, s2, s3, s4, s5, s6, s7, s8⟩ := HNO.out
        rw [hD]
        exact ⟨q1, q2, q3, q4, q5, q6, s7, q8⟩
      have hDc : D.chk = false := by rw [hD]; exact HOT.out
      have hDl : D.rc.adjs.length ≤ maxLen := by
        have h16 : ∀ X : Ms, X.chk = true → X.rc.adjs.length ≤ maxLen := adj_le
        rw [hD]
        exact h16 M HMC.out
      have HEN := Lib.hid (show ∀ V, AdjsIn V sa D.rc.adjs → Calls Try.prog 9 #[.agg (D.cs sa sc)] V (fun e X => e = .returned (.tuple #[.string ⟨#[]⟩, .int .i64 2]) ∧ Below V.heap.size V X) from fun V hA => by
        have h := mencode_any D sa sc V hDo hA hDl
        unfold Ms.encS Ms.err at h
        rw [hDc, if_neg (by decide), if_neg (by decide)] at h
        exact h)
      have HCH := Lib.hid (show ∀ V, AdjsIn V sa D.rc.adjs → Calls Try.prog 11 #[.agg (D.cs sa sc)] V (fun e X => e = .returned (.int .i64 2) ∧ Below V.heap.size V X) from fun V hA => by
        have h := mcheck_any D sa sc V hDo hA hDl
        unfold Ms.err at h
        rw [hDc, if_neg (by decide)] at h
        exact h)
      have HZE := Lib.hid hZ
      have HC1 := Lib.hid (block_cells HBX.out)
      have HGI := Lib.hid (info_msg D sa sc)
      clear hD hZ hDo hDc hDl hk hkk
      go_upto_region 14 with fail
      rw [← HZE.out]
      clear x0 y0 x23 y23 f23 x24 y24 f24 x25 y25 f25 x26 y26 f26
      go_wp2_with ((with_reducible refine wpList_load_cs rfl 38 (.tmp 5) rfl ⟨g1, 0, none⟩ rfl (D.cs sa sc).toList _ HC1.out Try.underlying38 rfl HGI.out ?_); rw [Array.toArray_toList])
      refine (HEN.out Z HAZ.out).mono ?_
      rintro e V2 ⟨rfl, hb⟩
      have HB2 := Lib.hid (HBZ.out.trans (hb.mono HBZ.out.size))
      have HC2 := Lib.hid (block_cells (HBX.out.later hb))
      have HA2 := Lib.hid (HAZ.out.later hb)
      clear hb
      go_wp2_with ((with_reducible refine wpList_load_cs rfl 38 (.tmp 5) rfl ⟨g1, 0, none⟩ rfl (D.cs sa sc).toList _ HC2.out Try.underlying38 rfl HGI.out ?_); rw [Array.toArray_toList])
      refine (HCH.out V2 HA2.out).mono ?_
      rintro e V3 ⟨rfl, hb⟩
      have HB3 := Lib.hid (HB2.out.trans (hb.mono HB2.out.size))
      clear hb
      go_wp2_with fail
      refine (works_any _).mono ?_
      rintro e V9 ⟨rfl, hb⟩
      have HB9 := Lib.hid (HB3.out.trans (hb.mono HB3.out.size))
      clear hb
      go_wp2_with fail
      go_returns
      exact ⟨rfl, HB9.out⟩
    · have HOT := Lib.hid (oth5 HMC.out HNC.out hk HKK.out)
      have e1 : (M.kd == 5) = false := by rw [beq_eq_false_iff_ne, ← hk]; exact HKK.out
      have ne1 : ¬ M.kd = 5 := by rw [← hk]; exact HKK.out
      rw [hk] at y0
      have y27 : wc.cell? ⟨g2, 27, none⟩ = some (.int .i64 N.ak.frm) := HR.out.b2.cell rfl
      have x27 : wc.cell? ⟨g1, 27, none⟩ = some (.int .i64 M.ak.frm) := HR.out.b1.cell rfl
      have f27 : wc.frozen? ⟨g1, 27, none⟩ = false := HR.out.b1.frz 27
      have y28 : wc.cell? ⟨g2, 28, none⟩ = some (.int .u32 N.ak.ep) := HR.out.b2.cell rfl
      have x28 : wc.cell? ⟨g1, 28, none⟩ = some (.int .u32 M.ak.ep) := HR.out.b1.cell rfl
      have f28 : wc.frozen? ⟨g1, 28, none⟩ = false := HR.out.b1.frz 28
      have y29 : wc.cell? ⟨g2, 29, none⟩ = some (.int .i64 N.ak.dst) := HR.out.b2.cell rfl
      have x29 : wc.cell? ⟨g1, 29, none⟩ = some (.int .i64 M.ak.dst) := HR.out.b1.cell rfl
      have f29 : wc.frozen? ⟨g1, 29, none⟩ = false := HR.out.b1.frz 29
      have y30 : wc.cell? ⟨g2, 30, none⟩ = some (.int .u32 N.ak.lif) := HR.out.b2.cell rfl
      have x30 : wc.cell? ⟨g1, 30, none⟩ = some (.int .u32 M.ak.lif) := HR.out.b1.cell rfl
      have f30 : wc.frozen? ⟨g1, 30, none⟩ = false := HR.out.b1.frz 30
      have y31 : wc.cell? ⟨g2, 31, none⟩ = some (.int .u32 N.ak.ver) := HR.out.b2.cell rfl
      have x31 : wc.cell? ⟨g1, 31, none⟩ = some (.int .u32 M.ak.ver) := HR.out.b1.cell rfl
      have f31 : wc.frozen? ⟨g1, 31, none⟩ = false := HR.out.b1.frz 31
      obtain ⟨D, hD⟩ : ∃ D : Ms, D = { M with ak := N.ak } := ⟨_, rfl⟩
      obtain ⟨Z, hZ⟩ : ∃ Z, Z = (((((wc.setCell ⟨g1, 27, none⟩ (.int .i64 N.ak.frm)).setCell ⟨g1, 28, none⟩ (.int .u32 N.ak.ep)).setCell ⟨g1, 29, none⟩ (.int .i64 N.ak.dst)).setCell ⟨g1, 30, none⟩ (.int .u32 N.ak.lif)).setCell ⟨g1, 31, none⟩ (.int .u32 N.ak.ver)) := ⟨_, rfl⟩
      have HBX := Lib.hid (show BoxM g1 D sa sc Z from by
        rw [hD, hZ]
        have h := (heap_setCell_same _ g1 31 _ _ (.int .u32 N.ak.ver) (heap_setCell_same _ g1 30 _ _ (.int .u32 N.ak.lif) (heap_setCell_same _ g1 29 _ _ (.int .i64 N.ak.dst) (heap_setCell_same _ g1 28 _ _ (.int .u32 N.ak.ep) (heap_setCell_same _ g1 27 _ _ (.int .i64 N.ak.frm) HR.out.b1)))))
        unfold Ms.cs at h
        simp only [List.setIfInBounds_toArray, List.set_cons_succ, List.set_cons_zero] at h
        unfold BoxM Ms.cs
        exact h)
      have HBZ := Lib.hid (show Below W.heap.size W Z from by
        rw [hZ]
        have hlo := HR.out.lo
        repeat (with_reducible refine Below.setCell ?_ (by simp only; omega) _)
        exact HR.out.bel)
      have HAZ := Lib.hid (show AdjsIn Z sa D.rc.adjs from by
        obtain ⟨B, hB⟩ := HR.out.r1
        rw [hD]
        refine ARow.adjs (B := B) (sc := sc) (hB.same fun j hj => ?_)
        have hne := HR.out.n1 j hj
        rw [hZ]
        iterate 5 rw [heap_setCell_other _ _ _ _ hne])
      have hDo : D.ok := by
        obtain ⟨q1, q2, q3, q4, q5, q6, q7, q8⟩ := HMO.out
        obtain ⟨s1, s2, s3, s4, s5, s6, s7, s8⟩ := HNO.out
        rw [hD]
        exact ⟨q1, q2, q3, q4, q5, q6, q7, s8⟩
      have hDc : D.chk = false := by rw [hD]; exact HOT.out
      have hDl : D.rc.adjs.length ≤ maxLen := by
        have h16 : ∀ X : Ms, X.chk = true → X.rc.adjs.length ≤ maxLen := adj_le
        rw [hD]
        exact h16 M HMC.out
      have HEN := Lib.hid (show ∀ V, AdjsIn V sa D.rc.adjs → Calls Try.prog 9 #[.agg (D.cs sa sc)] V (fun e X => e = .returned (.tuple #[.string ⟨#[]⟩, .int .i64 2]) ∧ Below V.heap.size V X) from fun V hA => by
        have h := mencode_any D sa sc V hDo hA hDl
        unfold Ms.encS Ms.err at h
        rw [hDc, if_neg (by decide), if_neg (by decide)] at h
        exact h)
      have HCH := Lib.hid (show ∀ V, AdjsIn V sa D.rc.adjs → Calls Try.prog 11 #[.agg (D.cs sa sc)] V (fun e X => e = .returned (.int .i64 2) ∧ Below V.heap.size V X) from fun V hA => by
        have h := mcheck_any D sa sc V hDo hA hDl
        unfold Ms.err at h
        rw [hDc, if_neg (by decide)] at h
        exact h)
      have HZE := Lib.hid hZ
      have HC1 := Lib.hid (block_cells HBX.out)
      have HGI := Lib.hid (info_msg D sa sc)
      clear hD hZ hDo hDc hDl hk hkk
      go_upto_region 14 with fail
      rw [← HZE.out]
      clear x0 y0 x27 y27 f27 x28 y28 f28 x29 y29 f29 x30 y30 f30 x31 y31 f31
      go_wp2_with ((with_reducible refine wpList_load_cs rfl 38 (.tmp 5) rfl ⟨g1, 0, none⟩ rfl (D.cs sa sc).toList _ HC1.out Try.underlying38 rfl HGI.out ?_); rw [Array.toArray_toList])
      refine (HEN.out Z HAZ.out).mono ?_
      rintro e V2 ⟨rfl, hb⟩
      have HB2 := Lib.hid (HBZ.out.trans (hb.mono HBZ.out.size))
      have HC2 := Lib.hid (block_cells (HBX.out.later hb))
      have HA2 := Lib.hid (HAZ.out.later hb)
      clear hb
      go_wp2_with ((with_reducible refine wpList_load_cs rfl 38 (.tmp 5) rfl ⟨g1, 0, none⟩ rfl (D.cs sa sc).toList _ HC2.out Try.underlying38 rfl HGI.out ?_); rw [Array.toArray_toList])
      refine (HCH.out V2 HA2.out).mono ?_
      rintro e V3 ⟨rfl, hb⟩
      have HB3 := Lib.hid (HB2.out.trans (hb.mono HB2.out.size))
      clear hb
      go_wp2_with fail
      refine (works_any _).mono ?_
      rintro e V9 ⟨rfl, hb⟩
      have HB9 := Lib.hid (HB3.out.trans (hb.mono HB3.out.size))
      clear hb
      go_wp2_with fail
      go_returns
      exact ⟨rfl, HB9.out⟩

end Go.Proofs.Ytickjmkkgcfkhaa
