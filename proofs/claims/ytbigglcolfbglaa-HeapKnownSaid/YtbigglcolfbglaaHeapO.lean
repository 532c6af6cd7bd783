/- Contract of a heap's Pop: over whatever order. -/
import Derived.Test.YtbigglcolfbglaaHeapK
set_option linter.unusedSimpArgs false
set_option linter.unusedVariables false
namespace Go.Proofs.Ytbigglcolfbglaa
open Go.RowKit

theorem lst_done {β : Type} [Inhabited β] {ah : β × Nat → β × Nat → Bool} {L : List (β × Nat)} {n i j : Nat} (h2 : j ≤ 2) (h : j = 2 ∨ n ≤ 2 * i + 1 + j) : lst ah L n i j = lst ah L n i 2 := by
  rcases h with rfl | h
  · rfl
  · match j, h2 with
    | 0, _ =>
      have e1 : lst ah L n i 1 = lst ah L n i 0 := lst_out ah (by omega)
      have e2 : lst ah L n i 2 = lst ah L n i 1 := lst_out ah (by omega)
      rw [e2, e1]
    | 1, _ =>
      have e2 : lst ah L n i 2 = lst ah L n i 1 := lst_out ah (by omega)
      rw [e2]
    | 2, _ => rfl

theorem down_step {β : Type} [Inhabited β] {ah : β × Nat → β × Nat → Bool} {L X : List (β × Nat)} {n i m : Nat} (hm : m = lst ah L n i 2) (hne : m ≠ i) (hd : down ah n i L = X) : down ah n m (sw L i m) = X := by
  subst hm
  rw [← hd, down_go ah hne]
/-- A store into a block that is new is none of the heap's. -/
theorem HeapAt.set_new {V : World} {B h : Nat} {HT IT : TypeId} {sz : Nat} {f : Value} {cs : List Value} {m n : Nat} {s : Value} (H : HeapAt V B h HT IT sz f cs m n s) {k j : Nat} {x : Value} (hk : h ≠ k) (hs : s.ownBlock ≠ some k) :
    HeapAt (V.setCell ⟨k, j, none⟩ x) B h HT IT sz f cs m n s :=
  H.same (heap_setCell_other _ _ _ _ (by simpa using hk)) fun q hq => heap_setCell_other _ _ _ _ (fun e => hs (by rw [hq]; simpa using e))
theorem Touch.set_new {W V : World} {h k j : Nat} {s t x : Value} (T : Touch W V h s t) (hk : W.heap.size ≤ k) : Touch W (V.setCell ⟨k, j, none⟩ x) h s t := by
  refine ⟨T.os, T.tape, T.output, by rw [World.size_setCell]; exact T.size, fun q hq h1 h2 => ?_, T.own⟩
  rw [heap_setCell_other _ _ _ _ (by simp; omega)]
  exact T.block q hq h1 h2

def iPopped (lt : (Int) → (Int) → Bool) (W : World) (B h G : Nat) (caps : Array Value) (L : List ((Int) × Nat)) (n : Nat) (sv : Value) (W' : World) : Prop :=
  ∃ sv', iAt W' B h G caps (popL (lah lt) L) n sv' ∧ Touch W W' h sv sv'

theorem iput_mem {V X : World} {B h : Nat} {gb capg m p : Nat} {cs : List Value} (x : (Int) × Nat) (hX : X = (((V).setCell ⟨gb, p * 2, none⟩ (.int .i64 (x).1)).setCell ⟨gb, p * 2 + 1, none⟩ (.int .u64 (x).2))) (R : Row V B 68 2 (.slice (some ⟨gb, 0, none⟩) m capg) m cs) (hgh : h ≠ gb) :
    Row X B 68 2 (.slice (some ⟨gb, 0, none⟩) m capg) m (((cs).set (p * 2) (.int .i64 (x).1)).set (p * 2 + 1) (.int .u64 (x).2)) ∧ X.heap[h]? = V.heap[h]? ∧ Touch V X h (.slice (some ⟨gb, 0, none⟩) m capg) (.slice (some ⟨gb, 0, none⟩) m capg) := by
  subst hX
  refine ⟨(Row.stored (Row.stored R (p * 2) (.int .i64 (x).1)).1 (p * 2 + 1) (.int .u64 (x).2)).1, ?_, ?_⟩
  · iterate 2 rw [heap_setCell_other _ _ _ _ (by simpa using hgh)]
  · iterate 2 refine Touch.set ?_ rfl
    exact Touch.refl _ _ _

/-- What the stores ahead of the sifting leave. -/
theorem ipop_mem {V X Y Z : World} {B h G : Nat} {caps : Array Value} {L : List ((Int) × Nat)} {n gb capg N : Nat} (H : iAt V B h G caps L n (.slice (some ⟨gb, 0, none⟩) L.length capg)) (hN : L.length = N + 1)
    (hX : X = (((V).setCell ⟨gb, 0, none⟩ (.int .i64 (g L N).1)).setCell ⟨gb, 1, none⟩ (.int .u64 (g L N).2))) (hY : Y = (((X).setCell ⟨gb, N * 2, none⟩ (.int .i64 (((0, 0) : (Int) × Nat)).1)).setCell ⟨gb, N * 2 + 1, none⟩ (.int .u64 (((0, 0) : (Int) × Nat)).2))) (hZ : Z = Y.setCell ⟨h, 1, none⟩ (.slice (some ⟨gb, 0, none⟩) N capg)) :
    iAt Z B h G caps ((L.set 0 (g L N)).take N) n (.slice (some ⟨gb, 0, none⟩) N capg) ∧
    Touch V Z h (.slice (some ⟨gb, 0, none⟩) L.length capg) (.slice (some ⟨gb, 0, none⟩) N capg) ∧
    X.cell? ⟨h, 1, none⟩ = some (.slice (some ⟨gb, 0, none⟩) L.length capg) ∧
    (∀ j, j < L.length * 2 → ∃ x, X.cell? ⟨gb, j, none⟩ = some x) ∧ (∀ j, j < L.length * 2 → X.frozen? ⟨gb, j, none⟩ = false) ∧
    Y.cell? ⟨h, 1, none⟩ = some (.slice (some ⟨gb, 0, none⟩) L.length capg) ∧ Y.frozen? ⟨h, 1, none⟩ = false := by
  have hgh : h ≠ gb := fun e => H.ne (by simp [Value.ownBlock, e])
  have hX' : X = (((V).setCell ⟨gb, 0 * 2, none⟩ (.int .i64 (g L N).1)).setCell ⟨gb, 0 * 2 + 1, none⟩ (.int .u64 (g L N).2)) := by rw [hX]
  obtain ⟨R1, hb1, T1⟩ := iput_mem (h := h) (g L N) hX' H.row hgh
  obtain ⟨R2, hb2, T2⟩ := iput_mem (h := h) ((0, 0) : (Int) × Nat) hY R1 hgh
  have hcs : (((((((iCs L).set (0 * 2) (.int .i64 (g L N).1)).set (0 * 2 + 1) (.int .u64 (g L N).2))).set (N * 2) (.int .i64 (((0, 0) : (Int) × Nat)).1)).set (N * 2 + 1) (.int .u64 (((0, 0) : (Int) × Nat)).2))).take (N * 2) = iCs ((L.set 0 (g L N)).take N) := by
    rw [← iCs_set, ← iCs_set, iCs_take, List.take_set_of_le (Nat.le_refl _)]
  obtain ⟨gb', capg', he, _, _, _, _, hc, hf⟩ := R1.form (by omega)
  simp only [Value.slice.injEq, Option.some.injEq, Addr.mk.injEq, and_true, true_and] at he
  obtain ⟨rfl, rfl⟩ := he
  have hlen : ((L.set 0 (g L N)).take N).length = N := by rw [List.length_take, List.length_set]; omega
  have T := T1.trans T2
  have hk1 := hb1.trans H.blk
  have hk2 := hb2.trans hk1
  have hl := R1.len
  clear hX hX' hY T1 T2 hb1 hb2
  refine ⟨⟨by rw [hZ]; exact blk_set1 hk2 _, H.low, ?_, H.ne⟩, ?_, cell_of_row _ h 1 _ _ _ hk1, fun j hj => ?_, fun j hj => hf j hj, cell_of_row _ h 1 _ _ _ hk2, frozen_of_row _ h 1 _ _ hk2⟩
  · rw [hlen, ← hcs]
    have R3 := R2.cut (k := N) (by omega)
    refine R3.same fun q hq => ?_
    simp only [Value.ownBlock, Option.some.injEq] at hq
    subst hq
    rw [hZ]
    exact heap_setCell_other _ _ _ _ (by simpa using Ne.symm hgh)
  · rw [hZ]
    exact ⟨T.os, T.tape, T.output, by rw [World.size_setCell]; exact T.size, fun k hk hh hs => by rw [heap_setCell_other _ _ _ _ (by simpa using hh)]; exact T.block k hk hh hs, .inl rfl⟩
  · rw [hc j hj]
    exact ⟨_, List.getElem?_eq_getElem (by omega)⟩

theorem ipop_end {lt : (Int) → (Int) → Bool} {W V : World} {B h G : Nat} {caps : Array Value} {L L0 M : List ((Int) × Nat)} {n N k : Nat} {sv s : Value} (hN : L.length = N + 1) (h0 : L0 = (L.set 0 (g L N)).take N) (hd : down (lah lt) N k M = down (lah lt) N 0 L0) (he : down (lah lt) N k M = M)
    (H : iAt V B h G caps M n s) (hT : Touch W V h sv s) : iPopped lt W B h G caps L n sv V := by
  have e : popL (lah lt) L = M := by
    unfold popL
    rw [show L.length - 1 = N from by omega, ← h0, ← hd, he]
  exact ⟨s, by rw [e]; exact H, hT⟩

/-- What holds at each round's head. -/
def iPopRel (lt : (Int) → (Int) → Bool) (ok : (Int) → Prop) (W : World) (B h G : Nat) (caps : Array Value) (sv : Value) (L0 : List ((Int) × Nat)) (N n : Nat) (i : Value) (wr : World) : Prop :=
  ∃ (k : Nat) (M : List ((Int) × Nat)) (s : Value), i = .int .i64 k ∧ (k < N ∨ k = 0) ∧ M.length = N ∧ down (lah lt) N k M = down (lah lt) N 0 L0 ∧ (∀ x ∈ M, ok x.1) ∧ iAt wr B h G caps M n s ∧ Touch W wr h sv s ∧ s.ownBlock = sv.ownBlock
def iInRel (lt : (Int) → (Int) → Bool) (wo : World) (B h G : Nat) (caps : Array Value) (s : Value) (M : List ((Int) × Nat)) (N n k : Nat) (l kk : Value) (wr : World) : Prop :=
  ∃ j l' c : Nat, j ≤ 2 ∧ l = .int .i64 l' ∧ kk = .int .i64 c ∧ l' = lst (lah lt) M N k j ∧ c = 2 * k + 1 + j ∧ iAt wr B h G caps M n s ∧ Below wo.heap.size wo wr

set_option maxRecDepth 100000 in
set_option maxHeartbeats 1600000 in
theorem ipop_yes {B G h n : Nat} {caps : Array Value} {lt : (Int) → (Int) → Bool} {ok : (Int) → Prop} {I : World → Prop} (O : Order Try.prog iV B G caps lt ok I) (L : List ((Int) × Nat)) (sv : Value) (W : World) (hB : B ≤ W.heap.size) (H : iAt W B h G caps L n sv) (hI : I W) (hokL : ∀ x ∈ L, ok x.1) (h0 : 0 < L.length) (hL : L.length < 1000000) :
    Calls Try.prog 25 #[.pointer (some ⟨h, 0, none⟩)] W fun e W' => e = .returned (.tuple #[.int .i64 (g L 0).1, .bool true]) ∧ iPopped lt W B h G caps L n sv W' := by
  obtain ⟨gb, capg, hsv, hgB, hgl, hgc, hgm, hcl, hfr⟩ := H.row.form h0
  clear hcl hfr
  subst hsv
  obtain ⟨N, hN⟩ : ∃ N, L.length = N + 1 := ⟨L.length - 1, by omega⟩
  obtain ⟨W1, hW1⟩ : ∃ W1, W1 = W := ⟨_, rfl⟩
  have hb1 : Below W.heap.size W W1 := by rw [hW1]; exact Below.refl _ _
  have H1 : iAt W1 B h G caps L n _ := HeapAt.later H hb1
  have hlth := H.lt
  have HW1 := Lib.hid hW1
  clear hW1 H
  go_enter Try.func25, Try.ntmps25
  go_wp2_with fail
  rw [← HW1.out]
  refine (ipeek_yes W1 H1 h0).mono ?_
  rintro e W2 ⟨rfl, hb2⟩
  have H2 : iAt W2 B h G caps L n _ := HeapAt.later H1 hb2
  have hbt2 := hb1.trans (hb2.mono hb1.size)
  obtain ⟨W3, hW3⟩ : ∃ W3, W3 = W2 := ⟨_, rfl⟩
  have hb3 : Below W2.heap.size W2 W3 := by rw [hW3]; exact Below.refl _ _
  have H3 : iAt W3 B h G caps L n _ := HeapAt.later H2 hb3
  have hbt := hbt2.trans (hb3.mono hbt2.size)
  have T3 := Touch.of_below h (.slice (some ⟨gb, 0, none⟩) L.length capg) hbt
  have hB3 : B ≤ W3.heap.size := Nat.le_trans hB hbt.size
  have hI3 : I W3 := O.stays _ _ (hbt.mono hB) hI
  have c1' : W3.cell? ⟨h, 1, none⟩ = some (.slice (some ⟨gb, 0, none⟩) L.length capg) := H3.cell 1
  have c1 : W2.cell? ⟨h, 1, none⟩ = some (.slice (some ⟨gb, 0, none⟩) L.length capg) := by rw [← hW3]; exact c1'
  have HW3 := Lib.hid hW3
  have HN := Lib.hid hN
  have hNL : N < L.length := by omega
  have hlast : ((L.length : Nat) : Int) - 1 = (N : Int) := by omega
  obtain ⟨P1, P2, p1, p2, p3, p4, p5⟩ := ipop_mem H3 hN rfl rfl rfl
  simp only [] at P1 P2 p4 p5
  have z0 : ((0 : Nat) : Int) = 0 := rfl
  rw [z0] at P1 P2 p4 p5
  have facts : ∀ V, iAt V B h G caps L n (.slice (some ⟨gb, 0, none⟩) L.length capg) → V.cell? ⟨h, 1, none⟩ = some (.slice (some ⟨gb, 0, none⟩) L.length capg) ∧ V.cell? ⟨gb, N * 2, none⟩ = some (.int .i64 (g L N).1) ∧ V.cell? ⟨gb, N * 2 + 1, none⟩ = some (.int .u64 (g L N).2) := fun V hV => by
    obtain ⟨gb', capg', he, _, _, _, _, hc', _⟩ := hV.row.form h0
    simp only [Value.slice.injEq, Option.some.injEq, Addr.mk.injEq, and_true, true_and] at he
    obtain ⟨rfl, rfl⟩ := he
    have gk := iCs_get (L := L) hNL
    exact ⟨hV.cell 1, (hc' _ (by omega)).trans gk.1, (hc' _ (by omega)).trans gk.2⟩
  have FF := Lib.hid facts
  obtain ⟨gb', capg', he, _, _, _, _, hc3, hf3⟩ := H3.row.form h0
  simp only [Value.slice.injEq, Option.some.injEq, Addr.mk.injEq, and_true, true_and] at he
  obtain ⟨rfl, rfl⟩ := he
  have gz := iCs_get (L := L) (i := 0) h0
  clear hW3 hN facts c1' H1 H2 hb1 hb2 hb3 hbt2 T3
  have o0 := (hc3 0 (by omega)).trans gz.1
  have o1 := (hc3 1 (by omega)).trans gz.2
  have y0 := hf3 0 (by omega)
  have y1 := hf3 1 (by omega)
  obtain ⟨x0, q0⟩ := p2 (N * 2) (by omega)
  obtain ⟨x1, q1⟩ := p2 (N * 2 + 1) (by omega)
  have r0 := p3 (N * 2) (by omega)
  have r1 := p3 (N * 2 + 1) (by omega)
  have HP := Lib.hid (And.intro P1 P2)
  clear P1 P2 p2 p3 hc3 hf3 gz
  go_wp2_with fail
  rw [← HW3.out]
  refine wp_region_ordB [(0, 1), (1, 1), (2, 1), (3, 0), (4, 1), (5, 1), (6, 1), (7, 0), (8, 1), (9, 1), (10, 0), (11, 1), (12, 3)] [12] (fun V => iAt V B h G caps L n (.slice (some ⟨gb, 0, none⟩) L.length capg)) (by kernel_rfl) (by kernel_rfl) (by decide) (by kernel_rfl) (fun d _ _ _ _ h => by cases d <;> exact h) (HeapAt.drew H3) ?_
  iterate 12 ((first | (apply wpOrdB_takePure rfl rfl (by kernel_rfl); (intro V; go_simp; rfl)) | (apply wpOrdB_take rfl rfl (by kernel_rfl); (intro V hV; obtain ⟨c0, c1, c2⟩ := FF.out V hV; go_simp; rfl))); (try simp only [List.setIfInBounds_toArray, List.set_cons_succ, List.set_cons_zero]))
  apply wpOrdB_last rfl (by kernel_rfl)
  intro K hK
  go_simp
  refine hK _ _ (wpOrdB_nil ?_)
  clear hK K
  go_wp2_with fail
  have hlen0 : ((L.set 0 (g L N)).take N).length = N := by rw [List.length_take, List.length_set]; omega
  have hok0 : ∀ x ∈ (L.set 0 (g L N)).take N, ok x.1 := by
    intro x hx
    rcases List.mem_or_eq_of_mem_set (List.mem_of_mem_take hx) with hx | hx
    · exact hokL x hx
    · rw [hx, g_eq hNL]; exact hokL _ (List.getElem_mem hNL)
  have PR := Lib.hid (show iPopRel lt ok W3 B h G caps (.slice (some ⟨gb, 0, none⟩) L.length capg) ((L.set 0 (g L N)).take N) N n (.int .i64 0) _ from ⟨0, _, _, rfl, .inr rfl, hlen0, rfl, hok0, HeapAt.drew HP.out.1, HP.out.2.drew, rfl⟩)
  obtain ⟨L0, hL0⟩ : ∃ L0, L0 = (L.set 0 (g L N)).take N := ⟨_, rfl⟩
  rw [← hL0] at PR
  have HL0 := Lib.hid hL0
  have hNs : N < 1000000 := by omega
  clear hL0 hlen0 hok0 HP hlast p1 p4 p5 o0 o1 y0 y1 q0 q1 r0 r1 c1
  go_loopw [7] (fun i wr => iPopRel lt ok W3 B h G caps (.slice (some ⟨gb, 0, none⟩) L.length capg) L0 N n i wr) (fun i _ => N - (intOf i).toNat)
  case atStart => exact PR.out
  case round =>
    obtain ⟨k, M, s, rfl, hk, hM, hdn, hokM, hat, htt, hown⟩ := hrel
    have HW := Lib.hid hown
    clear hown
    obtain ⟨wo, rfl⟩ : ∃ wo : World, wo = wr := ⟨_, rfl⟩
    have hkN : k < 1000000 := by omega
    have HM := Lib.hid hM
    have HD := Lib.hid hdn
    have HT := Lib.hid htt
    have HO := Lib.hid hokM
    have hrowB := (HeapAt.row H3).lt
    have hIr : I wo := O.stays _ _ (htt.below hB3 H3.low fun q hq => (hrowB q hq).1) hI3
    have hwo : B ≤ wo.heap.size := Nat.le_trans hB3 htt.size
    have HA := Lib.hid hat
    clear hM hdn htt hokM hrowB hat
    go_wp2_with fail
    go_loopw [8, 9] (fun l kk wx => iInRel lt wo B h G caps s M N n k l kk wx) (fun _ kk _ => 2 * k + 3 - (intOf kk).toNat)
    case atStart => exact ⟨0, k, 2 * k + 1, by omega, rfl, by go_num, rfl, rfl, HA.out, Below.refl _ _⟩
    case round =>
      obtain ⟨j, l, c, hj, rfl, rfl, hl, hc, hatx, hbx⟩ := hrel
      have hcs := lst_cases (lah lt) M N k j
      rw [← hl] at hcs
      by_cases hgo : j < 2 ∧ c < N
      · obtain ⟨hj2, hcN⟩ := hgo
        have hc1 : c ≤ 2 * k + 2 := by omega
        have hlN : l < N := by omega
        have HC := Lib.hid hc
        have HL := Lib.hid hl
        have hMl := HM.out
        obtain ⟨gs, caps', rfl, hgs, _, _, _, hcl, hfr⟩ := hatx.row.form (by omega)
        clear hcl hfr
        have facts : ∀ V, iAt V B h G caps M n (.slice (some ⟨gs, 0, none⟩) M.length caps') → V.cell? ⟨h, 1, none⟩ = some (.slice (some ⟨gs, 0, none⟩) M.length caps') ∧ V.cell? ⟨gs, c * 2, none⟩ = some (.int .i64 (g M c).1) ∧ V.cell? ⟨gs, c * 2 + 1, none⟩ = some (.int .u64 (g M c).2) ∧ V.cell? ⟨gs, l * 2, none⟩ = some (.int .i64 (g M l).1) ∧ V.cell? ⟨gs, l * 2 + 1, none⟩ = some (.int .u64 (g M l).2) := fun V hV => by
          obtain ⟨gb', capg', he, _, _, _, _, hc', _⟩ := hV.row.form (by omega)
          simp only [Value.slice.injEq, Option.some.injEq, Addr.mk.injEq, and_true, true_and] at he
          obtain ⟨rfl, rfl⟩ := he
          have gk := iCs_get (L := M) (i := c) (by omega)
          have gu := iCs_get (L := M) (i := l) (by omega)
          exact ⟨hV.cell 1, (hc' _ (by omega)).trans gk.1, (hc' _ (by omega)).trans gk.2, (hc' _ (by omega)).trans gu.1, (hc' _ (by omega)).trans gu.2⟩
        have okc : ok (g M c).1 := HO.out _ (by rw [g_eq (by omega)]; exact List.getElem_mem _)
        have okl : ok (g M l).1 := HO.out _ (by rw [g_eq (by omega)]; exact List.getElem_mem _)
        have call : ∀ V, iAt V B h G caps M n (.slice (some ⟨gs, 0, none⟩) M.length caps') ∧ Below wo.heap.size wo V →
            Calls Try.prog 31 #[.pointer (some ⟨h, 0, none⟩), .agg #[.int .i64 (g M c).1, .int .u64 (g M c).2], .agg #[.int .i64 (g M l).1, .int .u64 (g M l).2]] V fun e V' => e = .returned (.bool (lah lt (g M c) (g M l))) ∧ Below V.heap.size V V' := fun V hV =>
          iahead_any O _ _ _ _ V (HeapAt.cell hV.1 0) (by have := hV.2.size; omega) (O.stays _ _ (hV.2.mono hwo) hIr) okc okl
        have FF2 := Lib.hid facts
        have CC := Lib.hid call
        have HX := Lib.hid (And.intro hatx hbx)
        have hcM : c < M.length := by omega
        have hlM : l < M.length := by omega
        have hMs : M.length < 1000000 := by omega
        clear facts call hatx hbx hc hl hMl hcs
        go_wp2_with fail
        refine wp_region_ord [(0, true), (1, true), (2, true), (3, true), (4, true), (5, true), (6, true), (7, true), (8, true), (9, true), (10, true), (11, true), (12, true), (13, true), (14, true), (15, false)] (fun V => iAt V B h G caps M n (.slice (some ⟨gs, 0, none⟩) M.length caps') ∧ Below wo.heap.size wo V) (by kernel_rfl) (by kernel_rfl) (by decide) (by kernel_rfl) (fun d _ _ _ _ h => by cases d <;> exact h) ⟨HeapAt.drew HX.out.1, Below.drew HX.out.2⟩ ?_
        iterate 15 ((apply wpOrd_take rfl rfl (by kernel_rfl); (intro V hV; obtain ⟨c0, c1, c2, c3, c4⟩ := FF2.out V hV.1; go_simp; rfl)); (try simp only [List.setIfInBounds_toArray, List.set_cons_succ, List.set_cons_zero]))
        apply wpOrd_do rfl (by kernel_rfl)
        intro K hK
        go_wp2_with fail
        have S1 := Lib.hid (And.intro (HeapAt.drew HX.out.1) (Below.drew HX.out.2))
        refine (CC.out _ S1.out).mono ?_
        rintro e V1 ⟨rfl, hb1⟩
        have S2 := Lib.hid (And.intro (HeapAt.later S1.out.1 hb1) (Below.trans S1.out.2 (hb1.mono (Below.size S1.out.2))))
        refine hK _ _ S2.out (wpOrd_nil ?_)
        clear hK K hb1
        cases hq : lah lt (g M c) (g M l) with
        | true =>
          have HQ := Lib.hid hq
          clear hq
          go_wp2_with fail
          go_roundw
          case rel => exact ⟨j + 1, c, c + 1, by omega, rfl, by go_num, by rw [HL.out, HC.out] at HQ; rw [lst_yes _ (by have := HC.out; omega) HQ.out]; exact HC.out, by have := HC.out; omega, S2.out.1, S2.out.2⟩
          case measure => simp [intOf]; omega
        | false =>
          have HQ := Lib.hid hq
          clear hq
          go_wp2_with fail
          go_roundw
          case rel => exact ⟨j + 1, l, c + 1, by omega, rfl, by go_num, by rw [HL.out, HC.out] at HQ; rw [lst_no _ HQ.out]; exact HL.out, by have := HC.out; omega, S2.out.1, S2.out.2⟩
          case measure => simp [intOf]; omega
      · have hld : l = lst (lah lt) M N k 2 := by rw [hl]; exact lst_done hj (by omega)
        have hex : 2 * k + 2 < c ∨ (c ≤ 2 * k + 2 ∧ N ≤ c) := by omega
        have HTX := Lib.hid (HT.out.trans (Touch.of_below h s hbx))
        have HX := Lib.hid hatx
        have hcs2 := lst_cases (lah lt) M N k 2
        rw [← hld] at hcs2
        have HC := Lib.hid hc
        have HLD := Lib.hid hld
        clear hc hl hld hgo hcs hatx hbx
        by_cases hlk : l = k
        · have HE := Lib.hid (down_end (lah lt) (n := N) (i := k) (L := M) (by rw [← HLD.out]; exact hlk))
          have TW := Lib.hid ((Touch.of_below h _ hbt).trans HTX.out)
          have PP := Lib.hid (ipop_end HN.out HL0.out HD.out HE.out HX.out TW.out)
          subst hlk
          rcases hex with hx | ⟨hx, hx'⟩
          all_goals
            go_wp2_with fail
            go_ret2
            exact ⟨rfl, PP.out⟩
        · have hlN : l < N := by omega
          have hkN2 : k < N := by omega
          have hMl := HM.out
          have hat2 := HX.out
          obtain ⟨gb2, capx, hs2, hgs, _, _, _, hcl, hfr⟩ := hat2.row.form (by omega)
          clear hcl hfr
          subst hs2
          have facts : ∀ V, iAt V B h G caps M n (.slice (some ⟨gb2, 0, none⟩) M.length capx) → V.cell? ⟨h, 1, none⟩ = some (.slice (some ⟨gb2, 0, none⟩) M.length capx) ∧ V.cell? ⟨gb2, k * 2, none⟩ = some (.int .i64 (g M k).1) ∧ V.cell? ⟨gb2, k * 2 + 1, none⟩ = some (.int .u64 (g M k).2) ∧ V.cell? ⟨gb2, l * 2, none⟩ = some (.int .i64 (g M l).1) ∧ V.cell? ⟨gb2, l * 2 + 1, none⟩ = some (.int .u64 (g M l).2) := fun V hV => by
            obtain ⟨gb', capg', he, _, _, _, _, hc', _⟩ := hV.row.form (by omega)
            simp only [Value.slice.injEq, Option.some.injEq, Addr.mk.injEq, and_true, true_and] at he
            obtain ⟨rfl, rfl⟩ := he
            have gk := iCs_get (L := M) (i := k) (by omega)
            have gu := iCs_get (L := M) (i := l) (by omega)
            exact ⟨hV.cell 1, (hc' _ (by omega)).trans gk.1, (hc' _ (by omega)).trans gk.2, (hc' _ (by omega)).trans gu.1, (hc' _ (by omega)).trans gu.2⟩
          have FF2 := Lib.hid facts
          have hkM : k < M.length := by omega
          have hlM : l < M.length := by omega
          have hMs : M.length < 1000000 := by omega
          obtain ⟨c0, c1, c2, c3, c4⟩ := FF2.out _ hat2
          have fz : ∀ j, j < M.length * 2 → wr.frozen? ⟨gb2, j, none⟩ = false := fun j hj => by
            obtain ⟨gb', capg', he, _, _, _, _, _, hf⟩ := hat2.row.form (by omega)
            simp only [Value.slice.injEq, Option.some.injEq, Addr.mk.injEq, and_true, true_and] at he
            obtain ⟨rfl, rfl⟩ := he
            exact hf j hj
          have z1 := fz (k * 2) (by omega)
          have z2 := fz (k * 2 + 1) (by omega)
          have z3 := fz (l * 2) (by omega)
          have z4 := fz (l * 2 + 1) (by omega)
          have hlk2 : (((l : Nat) : Int) == (k : Int)) = false := by rw [beq_eq_false_iff_ne]; omega
          obtain ⟨SM1, SM2, e3, e4, z5, z6⟩ := iswap_mem hat2 hkM hlM (by omega)
          clear fz facts hMl hat2
          rcases hex with hx | ⟨hx, hx'⟩
          all_goals
            go_wp2_with fail
            refine wp_region_ordB [(0, 1), (1, 1), (2, 1), (3, 0), (4, 1), (5, 1), (6, 1), (7, 1), (8, 0), (9, 1), (10, 1), (11, 1), (12, 1), (13, 0), (14, 1), (15, 1), (16, 0), (17, 1), (18, 1), (19, 1), (20, 0), (21, 1), (22, 1), (23, 0), (24, 1), (25, 3), (26, 1), (27, 3)] [25, 27] (fun V => iAt V B h G caps M n (.slice (some ⟨gb2, 0, none⟩) M.length capx)) (by kernel_rfl) (by kernel_rfl) (by decide) (by kernel_rfl) (fun d _ _ _ _ h => by cases d <;> exact h) (HeapAt.drew HX.out) ?_
            iterate 25 ((first | (apply wpOrdB_takePure rfl rfl (by kernel_rfl); (intro V; go_simp; rfl)) | (apply wpOrdB_take rfl rfl (by kernel_rfl); (intro V hV; obtain ⟨c0, c1, c2, c3, c4⟩ := FF2.out V hV; go_simp; rfl))); (try simp only [List.setIfInBounds_toArray, List.set_cons_succ, List.set_cons_zero]))
            apply wpOrdB_last rfl (by kernel_rfl)
            intro K hK
            go_simp
            refine hK _ _ ?_
            clear hK K
            apply wpOrdB_takePure rfl rfl (by kernel_rfl)
            · intro V; go_simp; rfl
            (try simp only [List.setIfInBounds_toArray, List.set_cons_succ, List.set_cons_zero])
            apply wpOrdB_last rfl (by kernel_rfl)
            intro K hK
            go_simp
            refine hK _ _ (wpOrdB_nil ?_)
            clear hK K
            go_wp2_with fail
            go_roundw
            case rel => exact ⟨l, sw M k l, _, rfl, .inl hlN, by rw [sw_length]; exact HM.out, down_step HLD.out hlk HD.out, fun x hx => HO.out x ((sw_perm hkM hlM).mem_iff.1 hx), HeapAt.drew SM1, (HTX.out.trans SM2).drew, HW.out⟩
            case measure => simp [intOf]; omega

def tPopped (lt : (Int × Int) → (Int × Int) → Bool) (W : World) (B h G : Nat) (caps : Array Value) (L : List ((Int × Int) × Nat)) (n : Nat) (sv : Value) (W' : World) : Prop :=
  ∃ sv', tAt W' B h G caps (popL (lah lt) L) n sv' ∧ Touch W W' h sv sv'

theorem tput_mem {V X : World} {B h : Nat} {gb capg m p : Nat} {cs : List Value} (x : (Int × Int) × Nat) (hX : X = ((((V).setCell ⟨gb, p * 3, none⟩ (.int .i64 (x).1.1)).setCell ⟨gb, p * 3 + 1, none⟩ (.int .i64 (x).1.2)).setCell ⟨gb, p * 3 + 2, none⟩ (.int .u64 (x).2))) (R : Row V B 64 3 (.slice (some ⟨gb, 0, none⟩) m capg) m cs) (hgh : h ≠ gb) :
    Row X B 64 3 (.slice (some ⟨gb, 0, none⟩) m capg) m ((((cs).set (p * 3) (.int .i64 (x).1.1)).set (p * 3 + 1) (.int .i64 (x).1.2)).set (p * 3 + 2) (.int .u64 (x).2)) ∧ X.heap[h]? = V.heap[h]? ∧ Touch V X h (.slice (some ⟨gb, 0, none⟩) m capg) (.slice (some ⟨gb, 0, none⟩) m capg) := by
  subst hX
  refine ⟨(Row.stored (Row.stored (Row.stored R (p * 3) (.int .i64 (x).1.1)).1 (p * 3 + 1) (.int .i64 (x).1.2)).1 (p * 3 + 2) (.int .u64 (x).2)).1, ?_, ?_⟩
  · iterate 3 rw [heap_setCell_other _ _ _ _ (by simpa using hgh)]
  · iterate 3 refine Touch.set ?_ rfl
    exact Touch.refl _ _ _

/-- What the stores ahead of the sifting leave. -/
theorem tpop_mem {V X Y Z : World} {B h G : Nat} {caps : Array Value} {L : List ((Int × Int) × Nat)} {n gb capg N : Nat} (H : tAt V B h G caps L n (.slice (some ⟨gb, 0, none⟩) L.length capg)) (hN : L.length = N + 1)
    (hX : X = ((((V).setCell ⟨gb, 0, none⟩ (.int .i64 (g L N).1.1)).setCell ⟨gb, 1, none⟩ (.int .i64 (g L N).1.2)).setCell ⟨gb, 2, none⟩ (.int .u64 (g L N).2))) (hY : Y = ((((X).setCell ⟨gb, N * 3, none⟩ (.int .i64 ((((0, 0), 0) : (Int × Int) × Nat)).1.1)).setCell ⟨gb, N * 3 + 1, none⟩ (.int .i64 ((((0, 0), 0) : (Int × Int) × Nat)).1.2)).setCell ⟨gb, N * 3 + 2, none⟩ (.int .u64 ((((0, 0), 0) : (Int × Int) × Nat)).2))) (hZ : Z = Y.setCell ⟨h, 1, none⟩ (.slice (some ⟨gb, 0, none⟩) N capg)) :
    tAt Z B h G caps ((L.set 0 (g L N)).take N) n (.slice (some ⟨gb, 0, none⟩) N capg) ∧
    Touch V Z h (.slice (some ⟨gb, 0, none⟩) L.length capg) (.slice (some ⟨gb, 0, none⟩) N capg) ∧
    X.cell? ⟨h, 1, none⟩ = some (.slice (some ⟨gb, 0, none⟩) L.length capg) ∧
    (∀ j, j < L.length * 3 → ∃ x, X.cell? ⟨gb, j, none⟩ = some x) ∧ (∀ j, j < L.length * 3 → X.frozen? ⟨gb, j, none⟩ = false) ∧
    Y.cell? ⟨h, 1, none⟩ = some (.slice (some ⟨gb, 0, none⟩) L.length capg) ∧ Y.frozen? ⟨h, 1, none⟩ = false := by
  have hgh : h ≠ gb := fun e => H.ne (by simp [Value.ownBlock, e])
  have hX' : X = ((((V).setCell ⟨gb, 0 * 3, none⟩ (.int .i64 (g L N).1.1)).setCell ⟨gb, 0 * 3 + 1, none⟩ (.int .i64 (g L N).1.2)).setCell ⟨gb, 0 * 3 + 2, none⟩ (.int .u64 (g L N).2)) := by rw [hX]
  obtain ⟨R1, hb1, T1⟩ := tput_mem (h := h) (g L N) hX' H.row hgh
  obtain ⟨R2, hb2, T2⟩ := tput_mem (h := h) (((0, 0), 0) : (Int × Int) × Nat) hY R1 hgh
  have hcs : (((((((((tCs L).set (0 * 3) (.int .i64 (g L N).1.1)).set (0 * 3 + 1) (.int .i64 (g L N).1.2)).set (0 * 3 + 2) (.int .u64 (g L N).2))).set (N * 3) (.int .i64 ((((0, 0), 0) : (Int × Int) × Nat)).1.1)).set (N * 3 + 1) (.int .i64 ((((0, 0), 0) : (Int × Int) × Nat)).1.2)).set (N * 3 + 2) (.int .u64 ((((0, 0), 0) : (Int × Int) × Nat)).2))).take (N * 3) = tCs ((L.set 0 (g L N)).take N) := by
    rw [← tCs_set, ← tCs_set, tCs_take, List.take_set_of_le (Nat.le_refl _)]
  obtain ⟨gb', capg', he, _, _, _, _, hc, hf⟩ := R1.form (by omega)
  simp only [Value.slice.injEq, Option.some.injEq, Addr.mk.injEq, and_true, true_and] at he
  obtain ⟨rfl, rfl⟩ := he
  have hlen : ((L.set 0 (g L N)).take N).length = N := by rw [List.length_take, List.length_set]; omega
  have T := T1.trans T2
  have hk1 := hb1.trans H.blk
  have hk2 := hb2.trans hk1
  have hl := R1.len
  clear hX hX' hY T1 T2 hb1 hb2
  refine ⟨⟨by rw [hZ]; exact blk_set1 hk2 _, H.low, ?_, H.ne⟩, ?_, cell_of_row _ h 1 _ _ _ hk1, fun j hj => ?_, fun j hj => hf j hj, cell_of_row _ h 1 _ _ _ hk2, frozen_of_row _ h 1 _ _ hk2⟩
  · rw [hlen, ← hcs]
    have R3 := R2.cut (k := N) (by omega)
    refine R3.same fun q hq => ?_
    simp only [Value.ownBlock, Option.some.injEq] at hq
    subst hq
    rw [hZ]
    exact heap_setCell_other _ _ _ _ (by simpa using Ne.symm hgh)
  · rw [hZ]
    exact ⟨T.os, T.tape, T.output, by rw [World.size_setCell]; exact T.size, fun k hk hh hs => by rw [heap_setCell_other _ _ _ _ (by simpa using hh)]; exact T.block k hk hh hs, .inl rfl⟩
  · rw [hc j hj]
    exact ⟨_, List.getElem?_eq_getElem (by omega)⟩

theorem tpop_end {lt : (Int × Int) → (Int × Int) → Bool} {W V : World} {B h G : Nat} {caps : Array Value} {L L0 M : List ((Int × Int) × Nat)} {n N k : Nat} {sv s : Value} (hN : L.length = N + 1) (h0 : L0 = (L.set 0 (g L N)).take N) (hd : down (lah lt) N k M = down (lah lt) N 0 L0) (he : down (lah lt) N k M = M)
    (H : tAt V B h G caps M n s) (hT : Touch W V h sv s) : tPopped lt W B h G caps L n sv V := by
  have e : popL (lah lt) L = M := by
    unfold popL
    rw [show L.length - 1 = N from by omega, ← h0, ← hd, he]
  exact ⟨s, by rw [e]; exact H, hT⟩

/-- What holds at each round's head. -/
def tPopRel (lt : (Int × Int) → (Int × Int) → Bool) (ok : (Int × Int) → Prop) (W : World) (B h G : Nat) (caps : Array Value) (sv : Value) (L0 : List ((Int × Int) × Nat)) (N n : Nat) (i : Value) (wr : World) : Prop :=
  ∃ (k : Nat) (M : List ((Int × Int) × Nat)) (s : Value), i = .int .i64 k ∧ (k < N ∨ k = 0) ∧ M.length = N ∧ down (lah lt) N k M = down (lah lt) N 0 L0 ∧ (∀ x ∈ M, ok x.1) ∧ tAt wr B h G caps M n s ∧ Touch W wr h sv s ∧ s.ownBlock = sv.ownBlock
def tInRel (lt : (Int × Int) → (Int × Int) → Bool) (wo : World) (B h G : Nat) (caps : Array Value) (s : Value) (M : List ((Int × Int) × Nat)) (N n k : Nat) (l kk : Value) (wr : World) : Prop :=
  ∃ j l' c : Nat, j ≤ 2 ∧ l = .int .i64 l' ∧ kk = .int .i64 c ∧ l' = lst (lah lt) M N k j ∧ c = 2 * k + 1 + j ∧ tAt wr B h G caps M n s ∧ Below wo.heap.size wo wr

set_option maxRecDepth 100000 in
set_option maxHeartbeats 1600000 in
theorem tpop_yes {B G h n : Nat} {caps : Array Value} {lt : (Int × Int) → (Int × Int) → Bool} {ok : (Int × Int) → Prop} {I : World → Prop} (O : Order Try.prog tV B G caps lt ok I) (L : List ((Int × Int) × Nat)) (sv : Value) (W : World) (hB : B ≤ W.heap.size) (H : tAt W B h G caps L n sv) (hI : I W) (hokL : ∀ x ∈ L, ok x.1) (h0 : 0 < L.length) (hL : L.length < 1000000) :
    Calls Try.prog 12 #[.pointer (some ⟨h, 0, none⟩)] W fun e W' => e = .returned (.tuple #[.agg #[.int .i64 (g L 0).1.1, .int .i64 (g L 0).1.2], .bool true]) ∧ tPopped lt W B h G caps L n sv W' := by
  obtain ⟨gb, capg, hsv, hgB, hgl, hgc, hgm, hcl, hfr⟩ := H.row.form h0
  clear hcl hfr
  subst hsv
  obtain ⟨N, hN⟩ : ∃ N, L.length = N + 1 := ⟨L.length - 1, by omega⟩
  obtain ⟨W1, hW1⟩ : ∃ W1, W1 = W.alloc (.cells #[.int .i64 0, .int .i64 0] 26) := ⟨_, rfl⟩
  have hb1 : Below W.heap.size W W1 := by rw [hW1]; exact (Below.refl _ _).alloc (Nat.le_refl _) _
  have hbl : W.heap.size < W1.heap.size := by rw [hW1, World.size_alloc]; omega
  have hbx : W1.heap[W.heap.size]? = some (.cells #[.int .i64 0, .int .i64 0] 26 (0, 0)) := by rw [hW1]; exact heap_alloc_new _ _
  have H1 : tAt W1 B h G caps L n _ := HeapAt.later H hb1
  have hlth := H.lt
  have HW1 := Lib.hid hW1
  clear hW1 H
  go_enter Try.func12, Try.ntmps12
  go_wp2_with fail
  rw [← HW1.out]
  refine (tpeek_yes W1 H1 h0).mono ?_
  rintro e W2 ⟨rfl, hb2⟩
  have H2 : tAt W2 B h G caps L n _ := HeapAt.later H1 hb2
  have hbt2 := hb1.trans (hb2.mono hb1.size)
  obtain ⟨W3, hW3⟩ : ∃ W3, W3 = W2.alloc (.cells #[.int .i64 (g L 0).1.1, .int .i64 (g L 0).1.2] 26) := ⟨_, rfl⟩
  have hb3 : Below W2.heap.size W2 W3 := by rw [hW3]; exact (Below.refl _ _).alloc (Nat.le_refl _) _
  have hbv : W3.heap[W2.heap.size]? = some (.cells #[.int .i64 (g L 0).1.1, .int .i64 (g L 0).1.2] 26 (0, 0)) := by rw [hW3]; exact heap_alloc_new _ _
  have hbr : W3.heap[W.heap.size]? = some (.cells #[.int .i64 0, .int .i64 0] 26 (0, 0)) := by
    rw [hb3.block _ (Nat.lt_of_lt_of_le hbl hb2.size), hb2.block _ hbl]; exact hbx
  have hvl : W2.heap.size < W3.heap.size := by rw [hW3, World.size_alloc]; omega
  have hrv : W.heap.size < W2.heap.size := Nat.lt_of_lt_of_le hbl hb2.size
  have H3 : tAt W3 B h G caps L n _ := HeapAt.later H2 hb3
  have hbt := hbt2.trans (hb3.mono hbt2.size)
  have T3 := Touch.of_below h (.slice (some ⟨gb, 0, none⟩) L.length capg) hbt
  have hB3 : B ≤ W3.heap.size := Nat.le_trans hB hbt.size
  have hI3 : I W3 := O.stays _ _ (hbt.mono hB) hI
  have c1' : W3.cell? ⟨h, 1, none⟩ = some (.slice (some ⟨gb, 0, none⟩) L.length capg) := H3.cell 1
  have c1 : (W2.alloc (.cells #[.int .i64 (g L 0).1.1, .int .i64 (g L 0).1.2] 26)).cell? ⟨h, 1, none⟩ = some (.slice (some ⟨gb, 0, none⟩) L.length capg) := by rw [← hW3]; exact c1'
  have HW3 := Lib.hid hW3
  have HN := Lib.hid hN
  have hNL : N < L.length := by omega
  have hlast : ((L.length : Nat) : Int) - 1 = (N : Int) := by omega
  obtain ⟨P1, P2, p1, p2, p3, p4, p5⟩ := tpop_mem H3 hN rfl rfl rfl
  simp only [] at P1 P2 p4 p5
  have z0 : ((0 : Nat) : Int) = 0 := rfl
  rw [z0] at P1 P2 p4 p5
  have facts : ∀ V, tAt V B h G caps L n (.slice (some ⟨gb, 0, none⟩) L.length capg) → V.cell? ⟨h, 1, none⟩ = some (.slice (some ⟨gb, 0, none⟩) L.length capg) ∧ V.cell? ⟨gb, N * 3, none⟩ = some (.int .i64 (g L N).1.1) ∧ V.cell? ⟨gb, N * 3 + 1, none⟩ = some (.int .i64 (g L N).1.2) ∧ V.cell? ⟨gb, N * 3 + 2, none⟩ = some (.int .u64 (g L N).2) := fun V hV => by
    obtain ⟨gb', capg', he, _, _, _, _, hc', _⟩ := hV.row.form h0
    simp only [Value.slice.injEq, Option.some.injEq, Addr.mk.injEq, and_true, true_and] at he
    obtain ⟨rfl, rfl⟩ := he
    have gk := tCs_get (L := L) hNL
    exact ⟨hV.cell 1, (hc' _ (by omega)).trans gk.1, (hc' _ (by omega)).trans gk.2.1, (hc' _ (by omega)).trans gk.2.2⟩
  have FF := Lib.hid facts
  obtain ⟨gb', capg', he, _, _, _, _, hc3, hf3⟩ := H3.row.form h0
  simp only [Value.slice.injEq, Option.some.injEq, Addr.mk.injEq, and_true, true_and] at he
  obtain ⟨rfl, rfl⟩ := he
  have gz := tCs_get (L := L) (i := 0) h0
  clear hW3 hN facts c1' H1 H2 hb1 hb2 hb3 hbt2 T3
  have o0 := (hc3 0 (by omega)).trans gz.1
  have o1 := (hc3 1 (by omega)).trans gz.2.1
  have o2 := (hc3 2 (by omega)).trans gz.2.2
  have y0 := hf3 0 (by omega)
  have y1 := hf3 1 (by omega)
  have y2 := hf3 2 (by omega)
  obtain ⟨x0, q0⟩ := p2 (N * 3) (by omega)
  obtain ⟨x1, q1⟩ := p2 (N * 3 + 1) (by omega)
  obtain ⟨x2, q2⟩ := p2 (N * 3 + 2) (by omega)
  have r0 := p3 (N * 3) (by omega)
  have r1 := p3 (N * 3 + 1) (by omega)
  have r2 := p3 (N * 3 + 2) (by omega)
  have HP := Lib.hid (And.intro P1 P2)
  clear P1 P2 p2 p3 hc3 hf3 gz
  go_wp2_with fail
  rw [← HW3.out]
  refine wp_region_ordB [(0, 1), (1, 1), (2, 1), (3, 0), (4, 1), (5, 1), (6, 1), (7, 0), (8, 1), (9, 1), (10, 0), (11, 1), (12, 3)] [12] (fun V => tAt V B h G caps L n (.slice (some ⟨gb, 0, none⟩) L.length capg)) (by kernel_rfl) (by kernel_rfl) (by decide) (by kernel_rfl) (fun d _ _ _ _ h => by cases d <;> exact h) (HeapAt.drew H3) ?_
  iterate 12 ((first | (apply wpOrdB_takePure rfl rfl (by kernel_rfl); (intro V; go_simp; rfl)) | (apply wpOrdB_take rfl rfl (by kernel_rfl); (intro V hV; obtain ⟨c0, c1, c2, c3⟩ := FF.out V hV; go_simp; rfl))); (try simp only [List.setIfInBounds_toArray, List.set_cons_succ, List.set_cons_zero]))
  apply wpOrdB_last rfl (by kernel_rfl)
  intro K hK
  go_simp
  refine hK _ _ (wpOrdB_nil ?_)
  clear hK K
  go_wp2_with fail
  have hlen0 : ((L.set 0 (g L N)).take N).length = N := by rw [List.length_take, List.length_set]; omega
  have hok0 : ∀ x ∈ (L.set 0 (g L N)).take N, ok x.1 := by
    intro x hx
    rcases List.mem_or_eq_of_mem_set (List.mem_of_mem_take hx) with hx | hx
    · exact hokL x hx
    · rw [hx, g_eq hNL]; exact hokL _ (List.getElem_mem hNL)
  have PR := Lib.hid (show tPopRel lt ok W3 B h G caps (.slice (some ⟨gb, 0, none⟩) L.length capg) ((L.set 0 (g L N)).take N) N n (.int .i64 0) _ from ⟨0, _, _, rfl, .inr rfl, hlen0, rfl, hok0, HeapAt.drew HP.out.1, HP.out.2.drew, rfl⟩)
  obtain ⟨L0, hL0⟩ : ∃ L0, L0 = (L.set 0 (g L N)).take N := ⟨_, rfl⟩
  rw [← hL0] at PR
  have HL0 := Lib.hid hL0
  have hNs : N < 1000000 := by omega
  clear hL0 hlen0 hok0 HP hlast p1 p4 p5 o0 o1 y0 y1 q0 q1 r0 r1 c1
  clear o2 y2 q2 r2
  go_loopw [7] (fun i wr => tPopRel lt ok W3 B h G caps (.slice (some ⟨gb, 0, none⟩) L.length capg) L0 N n i wr) (fun i _ => N - (intOf i).toNat)
  case atStart => exact PR.out
  case round =>
    obtain ⟨k, M, s, rfl, hk, hM, hdn, hokM, hat, htt, hown⟩ := hrel
    have HW := Lib.hid hown
    clear hown
    obtain ⟨wo, rfl⟩ : ∃ wo : World, wo = wr := ⟨_, rfl⟩
    have hkN : k < 1000000 := by omega
    have HM := Lib.hid hM
    have HD := Lib.hid hdn
    have HT := Lib.hid htt
    have HO := Lib.hid hokM
    have hrowB := (HeapAt.row H3).lt
    have hIr : I wo := O.stays _ _ (htt.below hB3 H3.low fun q hq => (hrowB q hq).1) hI3
    have hwo : B ≤ wo.heap.size := Nat.le_trans hB3 htt.size
    have HA := Lib.hid hat
    clear hM hdn htt hokM hrowB hat
    go_wp2_with fail
    go_loopw [8, 9] (fun l kk wx => tInRel lt wo B h G caps s M N n k l kk wx) (fun _ kk _ => 2 * k + 3 - (intOf kk).toNat)
    case atStart => exact ⟨0, k, 2 * k + 1, by omega, rfl, by go_num, rfl, rfl, HA.out, Below.refl _ _⟩
    case round =>
      obtain ⟨j, l, c, hj, rfl, rfl, hl, hc, hatx, hbx⟩ := hrel
      have hcs := lst_cases (lah lt) M N k j
      rw [← hl] at hcs
      by_cases hgo : j < 2 ∧ c < N
      · obtain ⟨hj2, hcN⟩ := hgo
        have hc1 : c ≤ 2 * k + 2 := by omega
        have hlN : l < N := by omega
        have HC := Lib.hid hc
        have HL := Lib.hid hl
        have hMl := HM.out
        obtain ⟨gs, caps', rfl, hgs, _, _, _, hcl, hfr⟩ := hatx.row.form (by omega)
        clear hcl hfr
        have facts : ∀ V, tAt V B h G caps M n (.slice (some ⟨gs, 0, none⟩) M.length caps') → V.cell? ⟨h, 1, none⟩ = some (.slice (some ⟨gs, 0, none⟩) M.length caps') ∧ V.cell? ⟨gs, c * 3, none⟩ = some (.int .i64 (g M c).1.1) ∧ V.cell? ⟨gs, c * 3 + 1, none⟩ = some (.int .i64 (g M c).1.2) ∧ V.cell? ⟨gs, c * 3 + 2, none⟩ = some (.int .u64 (g M c).2) ∧ V.cell? ⟨gs, l * 3, none⟩ = some (.int .i64 (g M l).1.1) ∧ V.cell? ⟨gs, l * 3 + 1, none⟩ = some (.int .i64 (g M l).1.2) ∧ V.cell? ⟨gs, l * 3 + 2, none⟩ = some (.int .u64 (g M l).2) := fun V hV => by
          obtain ⟨gb', capg', he, _, _, _, _, hc', _⟩ := hV.row.form (by omega)
          simp only [Value.slice.injEq, Option.some.injEq, Addr.mk.injEq, and_true, true_and] at he
          obtain ⟨rfl, rfl⟩ := he
          have gk := tCs_get (L := M) (i := c) (by omega)
          have gu := tCs_get (L := M) (i := l) (by omega)
          exact ⟨hV.cell 1, (hc' _ (by omega)).trans gk.1, (hc' _ (by omega)).trans gk.2.1, (hc' _ (by omega)).trans gk.2.2, (hc' _ (by omega)).trans gu.1, (hc' _ (by omega)).trans gu.2.1, (hc' _ (by omega)).trans gu.2.2⟩
        have okc : ok (g M c).1 := HO.out _ (by rw [g_eq (by omega)]; exact List.getElem_mem _)
        have okl : ok (g M l).1 := HO.out _ (by rw [g_eq (by omega)]; exact List.getElem_mem _)
        have call : ∀ V, tAt V B h G caps M n (.slice (some ⟨gs, 0, none⟩) M.length caps') ∧ Below wo.heap.size wo V →
            Calls Try.prog 29 #[.pointer (some ⟨h, 0, none⟩), .agg #[.int .i64 (g M c).1.1, .int .i64 (g M c).1.2, .int .u64 (g M c).2], .agg #[.int .i64 (g M l).1.1, .int .i64 (g M l).1.2, .int .u64 (g M l).2]] V fun e V' => e = .returned (.bool (lah lt (g M c) (g M l))) ∧ Below V.heap.size V V' := fun V hV =>
          tahead_any O _ _ _ _ V (HeapAt.cell hV.1 0) (by have := hV.2.size; omega) (O.stays _ _ (hV.2.mono hwo) hIr) okc okl
        have FF2 := Lib.hid facts
        have CC := Lib.hid call
        have HX := Lib.hid (And.intro hatx hbx)
        have hcM : c < M.length := by omega
        have hlM : l < M.length := by omega
        have hMs : M.length < 1000000 := by omega
        clear facts call hatx hbx hc hl hMl hcs
        go_wp2_with fail
        refine wp_region_ord [(0, true), (1, true), (2, true), (3, true), (4, true), (5, true), (6, true), (7, true), (8, true), (9, true), (10, true), (11, true), (12, true), (13, true), (14, true), (15, false)] (fun V => tAt V B h G caps M n (.slice (some ⟨gs, 0, none⟩) M.length caps') ∧ Below wo.heap.size wo V) (by kernel_rfl) (by kernel_rfl) (by decide) (by kernel_rfl) (fun d _ _ _ _ h => by cases d <;> exact h) ⟨HeapAt.drew HX.out.1, Below.drew HX.out.2⟩ ?_
        iterate 15 ((apply wpOrd_take rfl rfl (by kernel_rfl); (intro V hV; obtain ⟨c0, c1, c2, c3, c4, c5, c6⟩ := FF2.out V hV.1; go_simp; rfl)); (try simp only [List.setIfInBounds_toArray, List.set_cons_succ, List.set_cons_zero]))
        apply wpOrd_do rfl (by kernel_rfl)
        intro K hK
        go_wp2_with fail
        have S1 := Lib.hid (And.intro (HeapAt.drew HX.out.1) (Below.drew HX.out.2))
        refine (CC.out _ S1.out).mono ?_
        rintro e V1 ⟨rfl, hb1⟩
        have S2 := Lib.hid (And.intro (HeapAt.later S1.out.1 hb1) (Below.trans S1.out.2 (hb1.mono (Below.size S1.out.2))))
        refine hK _ _ S2.out (wpOrd_nil ?_)
        clear hK K hb1
        cases hq : lah lt (g M c) (g M l) with
        | true =>
          have HQ := Lib.hid hq
          clear hq
          go_wp2_with fail
          go_roundw
          case rel => exact ⟨j + 1, c, c + 1, by omega, rfl, by go_num, by rw [HL.out, HC.out] at HQ; rw [lst_yes _ (by have := HC.out; omega) HQ.out]; exact HC.out, by have := HC.out; omega, S2.out.1, S2.out.2⟩
          case measure => simp [intOf]; omega
        | false =>
          have HQ := Lib.hid hq
          clear hq
          go_wp2_with fail
          go_roundw
          case rel => exact ⟨j + 1, l, c + 1, by omega, rfl, by go_num, by rw [HL.out, HC.out] at HQ; rw [lst_no _ HQ.out]; exact HL.out, by have := HC.out; omega, S2.out.1, S2.out.2⟩
          case measure => simp [intOf]; omega
      · have hld : l = lst (lah lt) M N k 2 := by rw [hl]; exact lst_done hj (by omega)
        have hex : 2 * k + 2 < c ∨ (c ≤ 2 * k + 2 ∧ N ≤ c) := by omega
        have HTX := Lib.hid (HT.out.trans (Touch.of_below h s hbx))
        have HX := Lib.hid hatx
        have hcs2 := lst_cases (lah lt) M N k 2
        rw [← hld] at hcs2
        have HC := Lib.hid hc
        have HLD := Lib.hid hld
        clear hc hl hld hgo hcs hatx hbx
        by_cases hlk : l = k
        · have HE := Lib.hid (down_end (lah lt) (n := N) (i := k) (L := M) (by rw [← HLD.out]; exact hlk))
          have TW := Lib.hid ((Touch.of_below h _ hbt).trans HTX.out)
          subst hlk
          have hv := HTX.out.block W2.heap.size hvl (by omega) (by simp only [Value.ownBlock, ne_eq, Option.some.injEq]; omega)
          have hr := HTX.out.block W.heap.size (by omega) (by omega) (by simp only [Value.ownBlock, ne_eq, Option.some.injEq]; omega)
          rw [hbv] at hv
          rw [hbr] at hr
          have v0 := cell_of_row _ _ 0 _ _ _ hv
          have v1 := cell_of_row _ _ 1 _ _ _ hv
          have r0 := cell_of_row _ _ 0 _ _ _ hr
          have r1 := cell_of_row _ _ 1 _ _ _ hr
          have r2 := frozen_of_row _ _ 0 _ _ hr
          have r3 := frozen_of_row _ _ 1 _ _ hr
          simp only [List.getElem?_toArray, List.getElem?_cons_zero, List.getElem?_cons_succ] at v0 v1 r0 r1
          have eb := heap_setCell_same _ _ 1 _ _ (.int .i64 (g L 0).1.2) (heap_setCell_same wr _ 0 _ _ (.int .i64 (g L 0).1.1) hr)
          have e0 := cell_of_row _ _ 0 _ _ _ eb
          have e1 := cell_of_row _ _ 1 _ _ _ eb
          simp only [List.getElem?_toArray, List.setIfInBounds_toArray, List.set_cons_zero, List.set_cons_succ, List.getElem?_cons_zero, List.getElem?_cons_succ] at e0 e1
          have hso : s.ownBlock ≠ some W.heap.size := by rw [HW.out]; simp only [Value.ownBlock, ne_eq, Option.some.injEq]; omega
          have PQ := Lib.hid (tpop_end HN.out HL0.out HD.out HE.out (HeapAt.set_new (HeapAt.set_new HX.out (k := W.heap.size) (j := 0) (x := .int .i64 (g L 0).1.1) (by omega) hso) (k := W.heap.size) (j := 1) (x := .int .i64 (g L 0).1.2) (by omega) hso) ((TW.out.set_new (Nat.le_refl _)).set_new (Nat.le_refl _)))
          clear hv hr eb
          rcases hex with hx | ⟨hx, hx'⟩
          all_goals
            go_wp2_with fail
            exact bodyPost_ret (v := .tuple #[.agg #[.int .i64 (g L 0).1.1, .int .i64 (g L 0).1.2], .bool true]) (by simp [results, Try.results12, go_sem, e0, e1]) rfl ⟨rfl, PQ.out⟩
        · have hlN : l < N := by omega
          have hkN2 : k < N := by omega
          have hMl := HM.out
          have hat2 := HX.out
          obtain ⟨gb2, capx, hs2, hgs, _, _, _, hcl, hfr⟩ := hat2.row.form (by omega)
          clear hcl hfr
          subst hs2
          have facts : ∀ V, tAt V B h G caps M n (.slice (some ⟨gb2, 0, none⟩) M.length capx) → V.cell? ⟨h, 1, none⟩ = some (.slice (some ⟨gb2, 0, none⟩) M.length capx) ∧ V.cell? ⟨gb2, k * 3, none⟩ = some (.int .i64 (g M k).1.1) ∧ V.cell? ⟨gb2, k * 3 + 1, none⟩ = some (.int .i64 (g M k).1.2) ∧ V.cell? ⟨gb2, k * 3 + 2, none⟩ = some (.int .u64 (g M k).2) ∧ V.cell? ⟨gb2, l * 3, none⟩ = some (.int .i64 (g M l).1.1) ∧ V.cell? ⟨gb2, l * 3 + 1, none⟩ = some (.int .i64 (g M l).1.2) ∧ V.cell? ⟨gb2, l * 3 + 2, none⟩ = some (.int .u64 (g M l).2) := fun V hV => by
            obtain ⟨gb', capg', he, _, _, _, _, hc', _⟩ := hV.row.form (by omega)
            simp only [Value.slice.injEq, Option.some.injEq, Addr.mk.injEq, and_true, true_and] at he
            obtain ⟨rfl, rfl⟩ := he
            have gk := tCs_get (L := M) (i := k) (by omega)
            have gu := tCs_get (L := M) (i := l) (by omega)
            exact ⟨hV.cell 1, (hc' _ (by omega)).trans gk.1, (hc' _ (by omega)).trans gk.2.1, (hc' _ (by omega)).trans gk.2.2, (hc' _ (by omega)).trans gu.1, (hc' _ (by omega)).trans gu.2.1, (hc' _ (by omega)).trans gu.2.2⟩
          have FF2 := Lib.hid facts
          have hkM : k < M.length := by omega
          have hlM : l < M.length := by omega
          have hMs : M.length < 1000000 := by omega
          obtain ⟨c0, c1, c2, c3, c4, c5, c6⟩ := FF2.out _ hat2
          have fz : ∀ j, j < M.length * 3 → wr.frozen? ⟨gb2, j, none⟩ = false := fun j hj => by
            obtain ⟨gb', capg', he, _, _, _, _, _, hf⟩ := hat2.row.form (by omega)
            simp only [Value.slice.injEq, Option.some.injEq, Addr.mk.injEq, and_true, true_and] at he
            obtain ⟨rfl, rfl⟩ := he
            exact hf j hj
          have z1 := fz (k * 3) (by omega)
          have z2 := fz (k * 3 + 1) (by omega)
          have z7 := fz (k * 3 + 2) (by omega)
          have z3 := fz (l * 3) (by omega)
          have z4 := fz (l * 3 + 1) (by omega)
          have z8 := fz (l * 3 + 2) (by omega)
          have hlk2 : (((l : Nat) : Int) == (k : Int)) = false := by rw [beq_eq_false_iff_ne]; omega
          obtain ⟨SM1, SM2, e3, e4, e5, z5, z6, z9⟩ := tswap_mem hat2 hkM hlM (by omega)
          clear fz facts hMl hat2
          rcases hex with hx | ⟨hx, hx'⟩
          all_goals
            go_wp2_with fail
            refine wp_region_ordB [(0, 1), (1, 1), (2, 1), (3, 0), (4, 1), (5, 1), (6, 1), (7, 1), (8, 0), (9, 1), (10, 1), (11, 1), (12, 1), (13, 0), (14, 1), (15, 1), (16, 0), (17, 1), (18, 1), (19, 1), (20, 0), (21, 1), (22, 1), (23, 0), (24, 1), (25, 3), (26, 1), (27, 3)] [25, 27] (fun V => tAt V B h G caps M n (.slice (some ⟨gb2, 0, none⟩) M.length capx)) (by kernel_rfl) (by kernel_rfl) (by decide) (by kernel_rfl) (fun d _ _ _ _ h => by cases d <;> exact h) (HeapAt.drew HX.out) ?_
            iterate 25 ((first | (apply wpOrdB_takePure rfl rfl (by kernel_rfl); (intro V; go_simp; rfl)) | (apply wpOrdB_take rfl rfl (by kernel_rfl); (intro V hV; obtain ⟨c0, c1, c2, c3, c4, c5, c6⟩ := FF2.out V hV; go_simp; rfl))); (try simp only [List.setIfInBounds_toArray, List.set_cons_succ, List.set_cons_zero]))
            apply wpOrdB_last rfl (by kernel_rfl)
            intro K hK
            go_simp
            refine hK _ _ ?_
            clear hK K
            apply wpOrdB_takePure rfl rfl (by kernel_rfl)
            · intro V; go_simp; rfl
            (try simp only [List.setIfInBounds_toArray, List.set_cons_succ, List.set_cons_zero])
            apply wpOrdB_last rfl (by kernel_rfl)
            intro K hK
            go_simp
            refine hK _ _ (wpOrdB_nil ?_)
            clear hK K
            go_wp2_with fail
            go_roundw
            case rel => exact ⟨l, sw M k l, _, rfl, .inl hlN, by rw [sw_length]; exact HM.out, down_step HLD.out hlk HD.out, fun x hx => HO.out x ((sw_perm hkM hlM).mem_iff.1 hx), HeapAt.drew SM1, (HTX.out.trans SM2).drew, HW.out⟩
            case measure => simp [intOf]; omega
end Go.Proofs.Ytbigglcolfbglaa
