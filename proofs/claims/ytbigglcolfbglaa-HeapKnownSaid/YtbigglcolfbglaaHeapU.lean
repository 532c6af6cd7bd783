/- Contract of a heap's Push: over whatever order. -/
import Derived.Test.YtbigglcolfbglaaHeapC
import Derived.Outline
set_option linter.unusedSimpArgs false
set_option linter.unusedVariables false
namespace Go.Proofs.Ytbigglcolfbglaa
open Go.RowKit

theorem blk_set1 {w : World} {h : Nat} {f a b : Value} {T : TypeId} (hb : w.heap[h]? = some (.cells #[f, a, b] T (0, 0))) (x : Value) : (w.setCell ⟨h, 1, none⟩ x).heap[h]? = some (.cells #[f, x, b] T (0, 0)) := heap_setCell_same w h 1 _ T x hb
theorem blk_set2 {w : World} {h : Nat} {f a b : Value} {T : TypeId} (hb : w.heap[h]? = some (.cells #[f, a, b] T (0, 0))) (x : Value) : (w.setCell ⟨h, 2, none⟩ x).heap[h]? = some (.cells #[f, a, x] T (0, 0)) := heap_setCell_same w h 2 _ T x hb

/-- What an append and the two stores behind it leave. -/
theorem push_mem {W w1 w2 : World} {B h : Nat} {HT IT : TypeId} {sz : Nat} {f : Value} {cs cs' : List Value} {m m' n n' : Nat} {sv sv' : Value} {o : Obj}
    (H : HeapAt W B h HT IT sz f cs m n sv) (hB : B ≤ W.heap.size) (hw1 : w1 = (W.alloc o).drew) (hrow : Row w2 B IT sz sv' m' cs') (hg : w1.grownBy w2 sv.ownBlock) (hown : sv'.ownBlock = sv.ownBlock ∨ sv'.ownBlock = some w1.heap.size) :
    HeapAt ((w2.setCell ⟨h, 1, none⟩ sv').setCell ⟨h, 2, none⟩ (.int .u64 n')) B h HT IT sz f cs' m' n' sv' ∧ Touch W ((w2.setCell ⟨h, 1, none⟩ sv').setCell ⟨h, 2, none⟩ (.int .u64 n')) h sv sv' ∧
      w2.heap[h]? = some (.cells #[f, sv, .int .u64 n] HT (0, 0)) := by
  have hlt := H.lt
  have hsz1 : w1.heap.size = W.heap.size + 1 := by rw [hw1]; exact World.size_alloc _ _
  have old : ∀ k, k < W.heap.size → sv.ownBlock ≠ some k → w2.heap[k]? = W.heap[k]? := fun k hk hs => by
    rw [hg.block k (by omega) (fun e => hs e.symm), hw1]
    exact Below.heap_alloc W o k hk
  have hb2 : w2.heap[h]? = some (.cells #[f, sv, .int .u64 n] HT (0, 0)) := (old h hlt H.ne).trans H.blk
  have hne : sv'.ownBlock ≠ some h := by
    rcases hown with e | e
    · rw [e]; exact H.ne
    · rw [e]; simp only [ne_eq, Option.some.injEq]; omega
  have hb3 := blk_set2 (blk_set1 hb2 sv') (.int .u64 n')
  refine ⟨⟨hb3, H.low, hrow.same fun k hk => ?_, hne⟩, ⟨?_, ?_, ?_, ?_, fun k hk hh hs => ?_, ?_⟩, hb2⟩
  · have hkh : k ≠ h := fun e => hne (e ▸ hk)
    rw [heap_setCell_other _ _ _ _ (by simpa using hkh), heap_setCell_other _ _ _ _ (by simpa using hkh)]
  · show w2.os = _; rw [hg.os, hw1]; rfl
  · show w2.tape = _; rw [hg.tape, hw1]; rfl
  · show w2.output = _; rw [hg.output, hw1]; rfl
  · have := hg.size; simp only [World.size_setCell]; omega
  · rw [heap_setCell_other _ _ _ _ (by simpa using hh), heap_setCell_other _ _ _ _ (by simpa using hh), old k hk hs]
  · rcases hown with e | e
    · exact .inl e
    · exact .inr ⟨_, e, by omega⟩

/-- One store more into the things' block. -/
theorem Touch.set {W V : World} {h gb j : Nat} {s t x : Value} (H : Touch W V h s t) (he : t.ownBlock = some gb) : Touch W (V.setCell ⟨gb, j, none⟩ x) h s t where
  os := H.os
  tape := H.tape
  output := H.output
  size := by rw [World.size_setCell]; exact H.size
  block k hk hh hs := by
    have hne : k ≠ gb := by
      rintro rfl
      rcases H.own with e | ⟨q, e, hq⟩
      · exact hs (e ▸ he)
      · rw [e] at he; simp only [Option.some.injEq] at he; omega
    rw [heap_setCell_other _ _ _ _ (by simpa using hne)]
    exact H.block k hk hh hs
  own := H.own

theorem infoI : (Try.prog.info? 68).map (fun i => (i.zero, i.size, i.bytes)) = some (some (.agg #[.int .i64 0, .int .u64 0]), 2, 16) := by kernel_rfl

theorem icells_new (w : World) (x : Int × Nat) (t : TypeId) : ∀ j u, (iCells x)[j]? = some u → (w.alloc (.cells #[.int .i64 x.1, .int .u64 x.2] t)).cell? ((⟨w.heap.size, 0, none⟩ : Addr).add j) = some u := cell_two_new w _ _ t
theorem iswap_mem {V : World} {B h G : Nat} {caps : Array Value} {M : List ((Int) × Nat)} {n gb capg k u : Nat} (H : iAt V B h G caps M n (.slice (some ⟨gb, 0, none⟩) M.length capg)) (hk : k < M.length) (hu : u < M.length) (hku : u ≠ k) :
    iAt ((((((V).setCell ⟨gb, k * 2, none⟩ (.int .i64 (g M u).1)).setCell ⟨gb, k * 2 + 1, none⟩ (.int .u64 (g M u).2))).setCell ⟨gb, u * 2, none⟩ (.int .i64 (g M k).1)).setCell ⟨gb, u * 2 + 1, none⟩ (.int .u64 (g M k).2)) B h G caps (sw M k u) n (.slice (some ⟨gb, 0, none⟩) M.length capg) ∧
    Touch V ((((((V).setCell ⟨gb, k * 2, none⟩ (.int .i64 (g M u).1)).setCell ⟨gb, k * 2 + 1, none⟩ (.int .u64 (g M u).2))).setCell ⟨gb, u * 2, none⟩ (.int .i64 (g M k).1)).setCell ⟨gb, u * 2 + 1, none⟩ (.int .u64 (g M k).2)) h (.slice (some ⟨gb, 0, none⟩) M.length capg) (.slice (some ⟨gb, 0, none⟩) M.length capg) ∧
    (((V).setCell ⟨gb, k * 2, none⟩ (.int .i64 (g M u).1)).setCell ⟨gb, k * 2 + 1, none⟩ (.int .u64 (g M u).2)).cell? ⟨gb, u * 2, none⟩ = some (.int .i64 (g M u).1) ∧ (((V).setCell ⟨gb, k * 2, none⟩ (.int .i64 (g M u).1)).setCell ⟨gb, k * 2 + 1, none⟩ (.int .u64 (g M u).2)).cell? ⟨gb, u * 2 + 1, none⟩ = some (.int .u64 (g M u).2) ∧
    (((V).setCell ⟨gb, k * 2, none⟩ (.int .i64 (g M u).1)).setCell ⟨gb, k * 2 + 1, none⟩ (.int .u64 (g M u).2)).frozen? ⟨gb, u * 2, none⟩ = false ∧ (((V).setCell ⟨gb, k * 2, none⟩ (.int .i64 (g M u).1)).setCell ⟨gb, k * 2 + 1, none⟩ (.int .u64 (g M u).2)).frozen? ⟨gb, u * 2 + 1, none⟩ = false := by
  have R1 := (Row.stored (Row.stored H.row (k * 2) (.int .i64 (g M u).1)).1 (k * 2 + 1) (.int .u64 (g M u).2)).1
  have R2 := (Row.stored (Row.stored R1 (u * 2) (.int .i64 (g M k).1)).1 (u * 2 + 1) (.int .u64 (g M k).2)).1
  have hgh : h ≠ gb := fun e => H.ne (by simp [Value.ownBlock, e])
  have gu := iCs_get hu
  have hcs : iCs (sw M k u) = ((((((iCs M).set (k * 2) (.int .i64 (g M u).1)).set (k * 2 + 1) (.int .u64 (g M u).2))).set (u * 2) (.int .i64 (g M k).1)).set (u * 2 + 1) (.int .u64 (g M k).2)) := by
    rw [sw, iCs_set, iCs_set]
  obtain ⟨gb', capg', he, _, _, _, _, hc, hf⟩ := R1.form (by omega)
  simp only [Value.slice.injEq, Option.some.injEq, Addr.mk.injEq, and_true, true_and] at he
  obtain ⟨rfl, rfl⟩ := he
  refine ⟨⟨?_, H.low, ?_, H.ne⟩, ?_, ?_, ?_, hf _ (by omega), hf _ (by omega)⟩
  · iterate 4 rw [heap_setCell_other _ _ _ _ (by simpa using hgh)]
    exact H.blk
  · rw [hcs, sw_length]; exact R2
  · iterate 4 refine Touch.set ?_ rfl
    exact Touch.refl _ _ _
  · rw [hc _ (by omega), List.getElem?_set_ne (by omega), List.getElem?_set_ne (by omega)]; exact gu.1
  · rw [hc _ (by omega), List.getElem?_set_ne (by omega), List.getElem?_set_ne (by omega)]; exact gu.2

/-- What holds at each round's head. -/
def iPushRel (lt : (Int) → (Int) → Bool) (ok : (Int) → Prop) (W : World) (B h G : Nat) (caps : Array Value) (sv : Value) (L0 : List ((Int) × Nat)) (i0 n : Nat) (i : Value) (wr : World) : Prop :=
  ∃ (k : Nat) (M : List ((Int) × Nat)) (s : Value), i = .int .i64 k ∧ k < M.length ∧ M.length = L0.length ∧ up (lah lt) k M = up (lah lt) i0 L0 ∧ (∀ x ∈ M, ok x.1) ∧ iAt wr B h G caps M n s ∧ Touch W wr h sv s

def iPushed (lt : (Int) → (Int) → Bool) (W : World) (B h G : Nat) (caps : Array Value) (L : List ((Int) × Nat)) (v : Int) (n : Nat) (sv : Value) (W' : World) : Prop :=
  ∃ sv', iAt W' B h G caps (up (lah lt) L.length (L ++ [(v, n)])) (n + 1) sv' ∧ Touch W W' h sv sv'
theorem iPush_end {lt : (Int) → (Int) → Bool} {W V : World} {B h G : Nat} {caps : Array Value} {L M : List ((Int) × Nat)} {v : Int} {n k : Nat} {sv s : Value} (hup : up (lah lt) k M = up (lah lt) L.length (L ++ [(v, n)])) (he : up (lah lt) k M = M) (hM : M.length = (L ++ [(v, n)]).length) (H : iAt V B h G caps M (n + 1) s) (hT : Touch W V h sv s) :
    Ending.returned (.bool true) = .returned (.bool true) ∧ iPushed lt W B h G caps L v n sv V := ⟨rfl, s, by rw [← hup, he]; exact H, hT⟩
theorem iPush_up {lt : (Int) → (Int) → Bool} {M L0 : List ((Int) × Nat)} {k u i0 : Nat} (hup : up (lah lt) k M = up (lah lt) i0 L0) (h0 : 0 < k) (hu : u = (k - 1) / 2) (hq : lah lt (g M k) (g M u) = true) : up (lah lt) u (sw M k u) = up (lah lt) i0 L0 := by
  rw [← hup, up_go _ h0 (by rw [← hu]; exact hq), ← hu]

set_option maxRecDepth 100000 in
set_option maxHeartbeats 1600000 in
theorem ipush_any {B G h n : Nat} {caps : Array Value} {lt : (Int) → (Int) → Bool} {ok : (Int) → Prop} {I : World → Prop} (O : Order Try.prog iV B G caps lt ok I) (L : List ((Int) × Nat)) (sv : Value) (v : Int) (W : World) (hB : B ≤ W.heap.size) (H : iAt W B h G caps L n sv) (hI : I W) (hokL : ∀ x ∈ L, ok x.1) (hokv : ok v) (hL : L.length < 1000000) (hn : n < 1000000000000000000) :
    Calls Try.prog 22 #[.pointer (some ⟨h, 0, none⟩), .int .i64 v] W fun e W' => e = .returned (.bool true) ∧ iPushed lt W B h G caps L v n sv W' := by
  obtain ⟨i0, hi, hz0, hz1, hz2⟩ := info_parts infoI
  have hok' : ∀ x ∈ L ++ [(v, n)], ok x.1 := by
    intro x hx
    rcases List.mem_append.1 hx with hx | hx
    · exact hokL x hx
    · simp only [List.mem_singleton] at hx; subst hx; exact hokv
  obtain ⟨W1, hW1⟩ : ∃ W1, W1 = W := ⟨_, rfl⟩
  have hb1 : Below W.heap.size W W1 := by rw [hW1]; exact Below.refl _ _
  have hrow0 : ∀ q, sv.ownBlock = some q → B ≤ q ∧ q < W.heap.size := fun q hq => H.row.lt q hq
  have hrowB := Lib.hid hrow0
  have H1 : iAt W1 B h G caps L n sv := HeapAt.later H hb1
  have T1 := Touch.of_below h sv hb1
  have hB1 : B ≤ W1.heap.size := Nat.le_trans hB hb1.size
  clear H hrow0
  have c0 : W1.cell? ⟨h, 0, none⟩ = some (.func (.func G) #[] caps) := H1.cell 0
  have c1 : W1.cell? ⟨h, 1, none⟩ = some sv := H1.cell 1
  have c2 : W1.cell? ⟨h, 2, none⟩ = some (.int .u64 n) := H1.cell 2
  have hlt := H1.lt
  have HW1 := Lib.hid hW1
  clear hW1
  go_enter Try.func22, Try.ntmps22
  go_wp2_with fail
  rw [← HW1.out]
  refine (inone_any h G caps W1 c0).mono ?_
  rintro e w' ⟨rfl, rfl⟩
  go_wp2_with fail
  refine wp_region_ordB [(0, 1), (1, 1), (2, 1), (3, 1), (4, 0), (5, 1), (6, 1), (7, 1), (8, 1), (9, 0), (10, 1), (11, 2), (12, 2), (13, 1), (14, 1), (15, 3)] [15] (fun V => V.cell? ⟨h, 1, none⟩ = some sv ∧ V.cell? ⟨h, 2, none⟩ = some (.int .u64 n)) (by kernel_rfl) (by kernel_rfl) (by decide) (by kernel_rfl) (fun d _ _ _ _ h => by cases d <;> exact h) ⟨c1, c2⟩ ?_
  iterate 11 ((first | (apply wpOrdB_takePure rfl rfl (by kernel_rfl); (intro V; go_simp; rfl)) | (apply wpOrdB_take rfl rfl (by kernel_rfl); (intro V hV; obtain ⟨s1, s2⟩ := hV; go_simp; rfl))); (try simp only [List.setIfInBounds_toArray, List.set_cons_succ, List.set_cons_zero]))
  apply wpOrdB_do rfl (by kernel_rfl)
  intro K hK
  go_simp
  refine hK _ _ ⟨(World.cell?_alloc_past _ _ _ hlt).trans c1, (World.cell?_alloc_past _ _ _ hlt).trans c2⟩ ?_
  clear hK K
  apply wpOrdB_do rfl (by kernel_rfl)
  intro K hK
  refine wp_append_row _ (.tmp 13) (.tmp 20) 57 rfl B 68 i0 (.agg #[.int .i64 0, .int .u64 0]) 2 16 Try.underlying57 hi hz0 hz1 hz2 rfl (by decide) sv L.length (iCs L) rfl (Row.drew (Row.alloc H1.row _)) ⟨W1.heap.size, 0, none⟩ 1 1 (iCells (v, n)) rfl rfl ?c1 ?c2 ?c3 ?c4 ?c5 ?_
  case c1 => exact icells_new _ _ _
  case c2 => intro u hu; simp only [iCells, List.mem_cons, List.not_mem_nil, or_false] at hu; rcases hu with rfl | rfl <;> rfl
  case c3 => unfold maxLen; omega
  case c4 => omega
  case c5 => show B ≤ (W1.alloc _).heap.size; rw [World.size_alloc]; omega
  intro v2 w2 hrow hg _ hown
  have hrow2 : Row w2 B 68 2 v2 (L.length + 1) (iCs (L ++ [(v, n)])) := by rw [iCs_snoc]; exact hrow
  obtain ⟨P1, P2, P3⟩ := push_mem (n' := n + 1) H1 hB1 rfl hrow2 hg hown
  have d1 : w2.cell? ⟨h, 1, none⟩ = some sv := cell_of_row w2 h 1 _ _ _ P3
  have d2 : w2.cell? ⟨h, 2, none⟩ = some (.int .u64 n) := cell_of_row w2 h 2 _ _ _ P3
  have f1 : w2.frozen? ⟨h, 1, none⟩ = false := frozen_of_row w2 h 1 _ _ P3
  have f2 : w2.frozen? ⟨h, 2, none⟩ = false := frozen_of_row w2 h 2 _ _ P3
  refine hK _ _ ⟨d1, d2⟩ ?_
  clear hK K
  iterate 2 ((apply wpOrdB_takePure rfl rfl (by kernel_rfl); (intro V; go_simp; rfl)); (try simp only [List.setIfInBounds_toArray, List.set_cons_succ, List.set_cons_zero]))
  obtain ⟨av, capv, hv, hcap1, hcap2⟩ := hrow2.shape
  rw [hv] at P1 P2 hrow2 ⊢
  clear hv hrow hown hg
  apply wpOrdB_last rfl (by kernel_rfl)
  intro K hK
  go_simp
  refine hK _ _ (wpOrdB_nil ?_)
  clear hK K
  go_wp2_with fail
  have hc : ((n + 1 : Nat) : Int) = (n : Int) + 1 := by omega
  rw [hc] at P1 P2
  have P2 := T1.trans P2
  have hsz := P2.size
  have hI1 : I W := hI
  have P0 : iPushRel lt ok W B h G caps sv (L ++ [(v, n)]) L.length (n + 1) (.int .i64 L.length) ((w2.setCell ⟨h, 1, none⟩ (.slice av (L.length + 1) capv)).setCell ⟨h, 2, none⟩ (.int .u64 ((n : Int) + 1))) :=
    ⟨L.length, L ++ [(v, n)], _, rfl, by simp, rfl, rfl, hok', by unfold iAt; rw [List.length_append]; exact P1, P2⟩
  have HP := Lib.hid P0
  clear P0 P1 P2 P3 d1 d2 f1 f2 c0 c1 c2 hrow2 hcap1 hcap2 hi hz0 hz1 hz2 hc hsz hlt H1 T1 hb1 HW1
  go_loopw [5] (fun i wr => iPushRel lt ok W B h G caps sv (L ++ [(v, n)]) L.length (n + 1) i wr) (fun i _ => (intOf i).toNat)
  case atStart => exact HP.out
  case round =>
    obtain ⟨k, M, s, rfl, hk, hM, hup, hokM, hat, htt⟩ := hrel
    have hM' : M.length = L.length + 1 := by rw [hM]; simp
    by_cases h0 : 0 < k
    · obtain ⟨gb, capg, rfl, hgB, hgl, hgc, hgm, hcells, hfroz⟩ := hat.row.form (by omega)
      obtain ⟨u, hu, hu', hu2⟩ : ∃ u : Nat, ((k : Int) - 1) / 2 = (u : Int) ∧ Hid (u = (k - 1) / 2) ∧ u < k := ⟨(k - 1) / 2, by omega, Lib.hid rfl, by omega⟩
      have facts : ∀ V, iAt V B h G caps M (n + 1) (.slice (some ⟨gb, 0, none⟩) M.length capg) → V.cell? ⟨h, 1, none⟩ = some (.slice (some ⟨gb, 0, none⟩) M.length capg) ∧
          V.cell? ⟨gb, k * 2, none⟩ = some (.int .i64 (g M k).1) ∧ V.cell? ⟨gb, k * 2 + 1, none⟩ = some (.int .u64 (g M k).2) ∧ V.cell? ⟨gb, u * 2, none⟩ = some (.int .i64 (g M u).1) ∧ V.cell? ⟨gb, u * 2 + 1, none⟩ = some (.int .u64 (g M u).2) := fun V hV => by
        obtain ⟨gb', capg', he, _, _, _, _, hc', _⟩ := hV.row.form (by omega)
        simp only [Value.slice.injEq, Option.some.injEq, Addr.mk.injEq, and_true, true_and] at he
        obtain ⟨rfl, rfl⟩ := he
        have gk := iCs_get (L := M) hk
        have gu := iCs_get (L := M) (i := u) (by omega)
        exact ⟨hV.cell 1, (hc' _ (by omega)).trans gk.1, (hc' _ (by omega)).trans gk.2, (hc' _ (by omega)).trans gu.1, (hc' _ (by omega)).trans gu.2⟩
      have FF := Lib.hid facts
      have HA := Lib.hid hat
      have hul : u < M.length := by omega
      have HM := Lib.hid hM
      have HM' : M.length < 1000001 := by omega
      have HU := Lib.hid hup
      have HT := Lib.hid htt
      have okk : ok (g M k).1 := hokM _ (by rw [g_eq hk]; exact List.getElem_mem hk)
      have oku : ok (g M u).1 := hokM _ (by rw [g_eq hul]; exact List.getElem_mem hul)
      have HO := Lib.hid hokM
      have hwr := htt.size
      have hIr : I wr := O.stays _ _ (htt.below hB HA.out.low fun q hq => (hrowB.out q hq).1) hI
      have call : ∀ V, iAt V B h G caps M (n + 1) (.slice (some ⟨gb, 0, none⟩) M.length capg) ∧ Below wr.heap.size wr V →
          Calls Try.prog 31 #[.pointer (some ⟨h, 0, none⟩), .agg #[.int .i64 (g M k).1, .int .u64 (g M k).2], .agg #[.int .i64 (g M u).1, .int .u64 (g M u).2]] V fun e V' => e = .returned (.bool (lah lt (g M k) (g M u))) ∧ Below V.heap.size V V' := fun V hV =>
        iahead_any O _ _ _ _ V (HeapAt.cell hV.1 0) (by have := hV.2.size; omega) (O.stays _ _ (hV.2.mono (by omega)) hIr) okk oku
      have CC := Lib.hid call
      clear facts call hat hcells hfroz hM hM' hup htt hokM
      go_wp2_with fail
      rw [hu]
      refine wp_region_ord [(0, true), (1, true), (2, true), (3, true), (4, true), (5, true), (6, true), (7, true), (8, true), (9, true), (10, true), (11, true), (12, true), (13, true), (14, true), (15, false), (16, true)] (fun V => iAt V B h G caps M (n + 1) (.slice (some ⟨gb, 0, none⟩) M.length capg) ∧ Below wr.heap.size wr V) (by kernel_rfl) (by kernel_rfl) (by decide) (by kernel_rfl) (fun d _ _ _ _ h => by cases d <;> exact h) ⟨HA.out.drew, (Below.refl _ _).drew⟩ ?_
      iterate 15 ((apply wpOrd_take rfl rfl (by kernel_rfl); (intro V hV; obtain ⟨c0, c1, c2, c3, c4⟩ := FF.out V hV.1; go_simp; rfl)); (try simp only [List.setIfInBounds_toArray, List.set_cons_succ, List.set_cons_zero]))
      apply wpOrd_do rfl (by kernel_rfl)
      intro K hK
      go_wp2_with fail
      have S1 := Lib.hid (And.intro (HeapAt.drew HA.out) (Below.drew (Below.refl wr.heap.size wr)))
      refine (CC.out _ S1.out).mono ?_
      rintro e V1 ⟨rfl, hb1⟩
      have S2 := Lib.hid (And.intro (HeapAt.later S1.out.1 hb1) (Below.trans S1.out.2 hb1))
      refine hK _ _ S2.out ?_
      clear hK K hb1
      apply wpOrd_look rfl (by kernel_rfl)
      · intro V _; go_simp; rfl
      refine wpOrd_nil ?_
      cases hq : lah lt (g M k) (g M u) with
      | false =>
        have HQ := Lib.hid hq
        clear hq
        go_wp2_with fail
        go_ret
        exact iPush_end HU.out (up_end _ h0 (by rw [← hu'.out]; exact HQ.out)) HM.out S2.out.1 (HT.out.trans (Touch.of_below h _ S2.out.2))
      | true =>
        have HQ := Lib.hid hq
        clear hq
        go_wp2_with fail
        obtain ⟨c0, c1, c2, c3, c4⟩ := FF.out V1 S2.out.1
        have fz : ∀ j, j < M.length * 2 → V1.frozen? ⟨gb, j, none⟩ = false := fun j hj => by
          obtain ⟨gb', capg', he, _, _, _, _, _, hf⟩ := S2.out.1.row.form (by omega)
          simp only [Value.slice.injEq, Option.some.injEq, Addr.mk.injEq, and_true, true_and] at he
          obtain ⟨rfl, rfl⟩ := he
          exact hf j hj
        have z1 := fz (k * 2) (by omega)
        have z2 := fz (k * 2 + 1) (by omega)
        have z3 := fz (u * 2) (by omega)
        have z4 := fz (u * 2 + 1) (by omega)
        clear fz
        refine wp_region_ordB [(0, 1), (1, 1), (2, 1), (3, 0), (4, 1), (5, 1), (6, 1), (7, 1), (8, 0), (9, 1), (10, 1), (11, 1), (12, 1), (13, 0), (14, 1), (15, 1), (16, 0), (17, 1), (18, 1), (19, 1), (20, 0), (21, 1), (22, 1), (23, 0), (24, 1), (25, 3), (26, 1), (27, 3)] [25, 27] (fun V => iAt V B h G caps M (n + 1) (.slice (some ⟨gb, 0, none⟩) M.length capg)) (by kernel_rfl) (by kernel_rfl) (by decide) (by kernel_rfl) (fun d _ _ _ _ h => by cases d <;> exact h) (HeapAt.drew S2.out.1) ?_
        iterate 25 ((first | (apply wpOrdB_takePure rfl rfl (by kernel_rfl); (intro V; go_simp; rfl)) | (apply wpOrdB_take rfl rfl (by kernel_rfl); (intro V hV; obtain ⟨c0, c1, c2, c3, c4⟩ := FF.out V hV; go_simp; rfl))); (try simp only [List.setIfInBounds_toArray, List.set_cons_succ, List.set_cons_zero]))
        obtain ⟨SM1, SM2, e3, e4, z5, z6⟩ := iswap_mem S2.out.1 hk hul (by omega)
        apply wpOrdB_last rfl (by kernel_rfl)
        intro K hK
        go_simp
        refine hK _ _ ?_
        clear hK K
        apply wpOrdB_takePure rfl rfl (by kernel_rfl)
        · intro V; go_simp; rfl
        (try simp only [List.setIfInBounds_toArray, List.set_cons_succ, List.set_cons_zero])
        apply wpOrdB_last rfl (by kernel_rfl)
        intro K hK
        go_simp
        refine hK _ _ (wpOrdB_nil ?_)
        clear hK K
        have SMM := Lib.hid (And.intro SM1 SM2)
        clear SM1 SM2 e3 e4 z5 z6 z1 z2 z3 z4 c0 c1 c2 c3 c4
        go_wp2_with fail
        go_roundw
        case rel => exact ⟨u, sw M k u, _, rfl, by rw [sw_length]; exact hul, by rw [sw_length]; exact HM.out, iPush_up HU.out h0 hu'.out HQ.out, fun x hx => HO.out x ((sw_perm hk hul).mem_iff.1 hx), HeapAt.drew SMM.out.1, ((HT.out.trans (Touch.of_below h _ S2.out.2)).trans SMM.out.2).drew⟩
        case measure => simp [intOf]; omega
    · obtain rfl : k = 0 := by omega
      go_wp2_with fail
      go_ret
      exact iPush_end hup (up_zero _ _) hM hat htt

theorem infoT : (Try.prog.info? 64).map (fun i => (i.zero, i.size, i.bytes)) = some (some (.agg #[.int .i64 0, .int .i64 0, .int .u64 0]), 3, 24) := by kernel_rfl

theorem tcells_new (w : World) (x : (Int × Int) × Nat) (t : TypeId) : ∀ j u, (tCells x)[j]? = some u → (w.alloc (.cells #[.int .i64 x.1.1, .int .i64 x.1.2, .int .u64 x.2] t)).cell? ((⟨w.heap.size, 0, none⟩ : Addr).add j) = some u := by
  intro j u hj
  match j, hj with
  | 0, hj => simp [tCells] at hj; subst hj; simp [Addr.add]
  | 1, hj => simp [tCells] at hj; subst hj; simp [Addr.add]
  | 2, hj => simp [tCells] at hj; subst hj; simp [Addr.add]
theorem tswap_mem {V : World} {B h G : Nat} {caps : Array Value} {M : List ((Int × Int) × Nat)} {n gb capg k u : Nat} (H : tAt V B h G caps M n (.slice (some ⟨gb, 0, none⟩) M.length capg)) (hk : k < M.length) (hu : u < M.length) (hku : u ≠ k) :
    tAt ((((((((V).setCell ⟨gb, k * 3, none⟩ (.int .i64 (g M u).1.1)).setCell ⟨gb, k * 3 + 1, none⟩ (.int .i64 (g M u).1.2)).setCell ⟨gb, k * 3 + 2, none⟩ (.int .u64 (g M u).2))).setCell ⟨gb, u * 3, none⟩ (.int .i64 (g M k).1.1)).setCell ⟨gb, u * 3 + 1, none⟩ (.int .i64 (g M k).1.2)).setCell ⟨gb, u * 3 + 2, none⟩ (.int .u64 (g M k).2)) B h G caps (sw M k u) n (.slice (some ⟨gb, 0, none⟩) M.length capg) ∧
    Touch V ((((((((V).setCell ⟨gb, k * 3, none⟩ (.int .i64 (g M u).1.1)).setCell ⟨gb, k * 3 + 1, none⟩ (.int .i64 (g M u).1.2)).setCell ⟨gb, k * 3 + 2, none⟩ (.int .u64 (g M u).2))).setCell ⟨gb, u * 3, none⟩ (.int .i64 (g M k).1.1)).setCell ⟨gb, u * 3 + 1, none⟩ (.int .i64 (g M k).1.2)).setCell ⟨gb, u * 3 + 2, none⟩ (.int .u64 (g M k).2)) h (.slice (some ⟨gb, 0, none⟩) M.length capg) (.slice (some ⟨gb, 0, none⟩) M.length capg) ∧
    ((((V).setCell ⟨gb, k * 3, none⟩ (.int .i64 (g M u).1.1)).setCell ⟨gb, k * 3 + 1, none⟩ (.int .i64 (g M u).1.2)).setCell ⟨gb, k * 3 + 2, none⟩ (.int .u64 (g M u).2)).cell? ⟨gb, u * 3, none⟩ = some (.int .i64 (g M u).1.1) ∧ ((((V).setCell ⟨gb, k * 3, none⟩ (.int .i64 (g M u).1.1)).setCell ⟨gb, k * 3 + 1, none⟩ (.int .i64 (g M u).1.2)).setCell ⟨gb, k * 3 + 2, none⟩ (.int .u64 (g M u).2)).cell? ⟨gb, u * 3 + 1, none⟩ = some (.int .i64 (g M u).1.2) ∧ ((((V).setCell ⟨gb, k * 3, none⟩ (.int .i64 (g M u).1.1)).setCell ⟨gb, k * 3 + 1, none⟩ (.int .i64 (g M u).1.2)).setCell ⟨gb, k * 3 + 2, none⟩ (.int .u64 (g M u).2)).cell? ⟨gb, u * 3 + 2, none⟩ = some (.int .u64 (g M u).2) ∧
    ((((V).setCell ⟨gb, k * 3, none⟩ (.int .i64 (g M u).1.1)).setCell ⟨gb, k * 3 + 1, none⟩ (.int .i64 (g M u).1.2)).setCell ⟨gb, k * 3 + 2, none⟩ (.int .u64 (g M u).2)).frozen? ⟨gb, u * 3, none⟩ = false ∧ ((((V).setCell ⟨gb, k * 3, none⟩ (.int .i64 (g M u).1.1)).setCell ⟨gb, k * 3 + 1, none⟩ (.int .i64 (g M u).1.2)).setCell ⟨gb, k * 3 + 2, none⟩ (.int .u64 (g M u).2)).frozen? ⟨gb, u * 3 + 1, none⟩ = false ∧ ((((V).setCell ⟨gb, k * 3, none⟩ (.int .i64 (g M u).1.1)).setCell ⟨gb, k * 3 + 1, none⟩ (.int .i64 (g M u).1.2)).setCell ⟨gb, k * 3 + 2, none⟩ (.int .u64 (g M u).2)).frozen? ⟨gb, u * 3 + 2, none⟩ = false := by
  have R1 := (Row.stored (Row.stored (Row.stored H.row (k * 3) (.int .i64 (g M u).1.1)).1 (k * 3 + 1) (.int .i64 (g M u).1.2)).1 (k * 3 + 2) (.int .u64 (g M u).2)).1
  have R2 := (Row.stored (Row.stored (Row.stored R1 (u * 3) (.int .i64 (g M k).1.1)).1 (u * 3 + 1) (.int .i64 (g M k).1.2)).1 (u * 3 + 2) (.int .u64 (g M k).2)).1
  have hgh : h ≠ gb := fun e => H.ne (by simp [Value.ownBlock, e])
  have gu := tCs_get hu
  have hcs : tCs (sw M k u) = ((((((((tCs M).set (k * 3) (.int .i64 (g M u).1.1)).set (k * 3 + 1) (.int .i64 (g M u).1.2)).set (k * 3 + 2) (.int .u64 (g M u).2))).set (u * 3) (.int .i64 (g M k).1.1)).set (u * 3 + 1) (.int .i64 (g M k).1.2)).set (u * 3 + 2) (.int .u64 (g M k).2)) := by
    rw [sw, tCs_set, tCs_set]
  obtain ⟨gb', capg', he, _, _, _, _, hc, hf⟩ := R1.form (by omega)
  simp only [Value.slice.injEq, Option.some.injEq, Addr.mk.injEq, and_true, true_and] at he
  obtain ⟨rfl, rfl⟩ := he
  refine ⟨⟨?_, H.low, ?_, H.ne⟩, ?_, ?_, ?_, ?_, hf _ (by omega), hf _ (by omega), hf _ (by omega)⟩
  · iterate 6 rw [heap_setCell_other _ _ _ _ (by simpa using hgh)]
    exact H.blk
  · rw [hcs, sw_length]; exact R2
  · iterate 6 refine Touch.set ?_ rfl
    exact Touch.refl _ _ _
  · rw [hc _ (by omega), List.getElem?_set_ne (by omega), List.getElem?_set_ne (by omega), List.getElem?_set_ne (by omega)]; exact gu.1
  · rw [hc _ (by omega), List.getElem?_set_ne (by omega), List.getElem?_set_ne (by omega), List.getElem?_set_ne (by omega)]; exact gu.2.1
  · rw [hc _ (by omega), List.getElem?_set_ne (by omega), List.getElem?_set_ne (by omega), List.getElem?_set_ne (by omega)]; exact gu.2.2

/-- What holds at each round's head. -/
def tPushRel (lt : (Int × Int) → (Int × Int) → Bool) (ok : (Int × Int) → Prop) (W : World) (B h G : Nat) (caps : Array Value) (sv : Value) (L0 : List ((Int × Int) × Nat)) (i0 n : Nat) (i : Value) (wr : World) : Prop :=
  ∃ (k : Nat) (M : List ((Int × Int) × Nat)) (s : Value), i = .int .i64 k ∧ k < M.length ∧ M.length = L0.length ∧ up (lah lt) k M = up (lah lt) i0 L0 ∧ (∀ x ∈ M, ok x.1) ∧ tAt wr B h G caps M n s ∧ Touch W wr h sv s

def tPushed (lt : (Int × Int) → (Int × Int) → Bool) (W : World) (B h G : Nat) (caps : Array Value) (L : List ((Int × Int) × Nat)) (v : Int × Int) (n : Nat) (sv : Value) (W' : World) : Prop :=
  ∃ sv', tAt W' B h G caps (up (lah lt) L.length (L ++ [(v, n)])) (n + 1) sv' ∧ Touch W W' h sv sv'
theorem tPush_end {lt : (Int × Int) → (Int × Int) → Bool} {W V : World} {B h G : Nat} {caps : Array Value} {L M : List ((Int × Int) × Nat)} {v : Int × Int} {n k : Nat} {sv s : Value} (hup : up (lah lt) k M = up (lah lt) L.length (L ++ [(v, n)])) (he : up (lah lt) k M = M) (hM : M.length = (L ++ [(v, n)]).length) (H : tAt V B h G caps M (n + 1) s) (hT : Touch W V h sv s) :
    Ending.returned (.bool true) = .returned (.bool true) ∧ tPushed lt W B h G caps L v n sv V := ⟨rfl, s, by rw [← hup, he]; exact H, hT⟩
theorem tPush_up {lt : (Int × Int) → (Int × Int) → Bool} {M L0 : List ((Int × Int) × Nat)} {k u i0 : Nat} (hup : up (lah lt) k M = up (lah lt) i0 L0) (h0 : 0 < k) (hu : u = (k - 1) / 2) (hq : lah lt (g M k) (g M u) = true) : up (lah lt) u (sw M k u) = up (lah lt) i0 L0 := by
  rw [← hup, up_go _ h0 (by rw [← hu]; exact hq), ← hu]

set_option maxRecDepth 100000 in
set_option maxHeartbeats 1600000 in
theorem tpush_any {B G h n : Nat} {caps : Array Value} {lt : (Int × Int) → (Int × Int) → Bool} {ok : (Int × Int) → Prop} {I : World → Prop} (O : Order Try.prog tV B G caps lt ok I) (L : List ((Int × Int) × Nat)) (sv : Value) (v : Int × Int) (W : World) (hB : B ≤ W.heap.size) (H : tAt W B h G caps L n sv) (hI : I W) (hokL : ∀ x ∈ L, ok x.1) (hokv : ok v) (hL : L.length < 1000000) (hn : n < 1000000000000000000) :
    Calls Try.prog 11 #[.pointer (some ⟨h, 0, none⟩), .agg #[.int .i64 v.1, .int .i64 v.2]] W fun e W' => e = .returned (.bool true) ∧ tPushed lt W B h G caps L v n sv W' := by
  obtain ⟨i0, hi, hz0, hz1, hz2⟩ := info_parts infoT
  have hok' : ∀ x ∈ L ++ [(v, n)], ok x.1 := by
    intro x hx
    rcases List.mem_append.1 hx with hx | hx
    · exact hokL x hx
    · simp only [List.mem_singleton] at hx; subst hx; exact hokv
  obtain ⟨W1, hW1⟩ : ∃ W1, W1 = W.alloc (.cells #[.int .i64 v.1, .int .i64 v.2] 26) := ⟨_, rfl⟩
  have hb1 : Below W.heap.size W W1 := by rw [hW1]; exact (Below.refl _ _).alloc (Nat.le_refl _) _
  have c3 : W1.cell? ⟨W.heap.size, 0, none⟩ = some (.int .i64 v.1) := by rw [hW1, cell_of_row _ _ 0 _ _ _ (heap_alloc_new _ _)]; rfl
  have c4 : W1.cell? ⟨W.heap.size, 1, none⟩ = some (.int .i64 v.2) := by rw [hW1, cell_of_row _ _ 1 _ _ _ (heap_alloc_new _ _)]; rfl
  have hbl : W.heap.size < W1.heap.size := by rw [hW1, World.size_alloc]; omega
  have hbx : W1.heap[W.heap.size]? = some (.cells #[.int .i64 v.1, .int .i64 v.2] 26 (0, 0)) := by rw [hW1]; exact heap_alloc_new _ _
  have hrow0 : ∀ q, sv.ownBlock = some q → B ≤ q ∧ q < W.heap.size := fun q hq => H.row.lt q hq
  have hrowB := Lib.hid hrow0
  have H1 : tAt W1 B h G caps L n sv := HeapAt.later H hb1
  have T1 := Touch.of_below h sv hb1
  have hB1 : B ≤ W1.heap.size := Nat.le_trans hB hb1.size
  clear H hrow0
  have c0 : W1.cell? ⟨h, 0, none⟩ = some (.func (.func G) #[] caps) := H1.cell 0
  have c1 : W1.cell? ⟨h, 1, none⟩ = some sv := H1.cell 1
  have c2 : W1.cell? ⟨h, 2, none⟩ = some (.int .u64 n) := H1.cell 2
  have hlt := H1.lt
  have HW1 := Lib.hid hW1
  clear hW1
  go_enter Try.func11, Try.ntmps11
  go_wp2_with fail
  rw [← HW1.out]
  refine (tnone_any h G caps W1 c0).mono ?_
  rintro e w' ⟨rfl, rfl⟩
  go_wp2_with fail
  refine wp_region_ordB [(0, 1), (1, 1), (2, 1), (3, 1), (4, 0), (5, 0), (6, 1), (7, 1), (8, 1), (9, 0), (10, 1), (11, 2), (12, 2), (13, 1), (14, 1), (15, 3)] [15] (fun V => V.cell? ⟨h, 1, none⟩ = some sv ∧ V.cell? ⟨h, 2, none⟩ = some (.int .u64 n) ∧ V.cell? ⟨W.heap.size, 0, none⟩ = some (.int .i64 v.1) ∧ V.cell? ⟨W.heap.size, 1, none⟩ = some (.int .i64 v.2)) (by kernel_rfl) (by kernel_rfl) (by decide) (by kernel_rfl) (fun d _ _ _ _ h => by cases d <;> exact h) ⟨c1, c2, c3, c4⟩ ?_
  iterate 11 ((first | (apply wpOrdB_takePure rfl rfl (by kernel_rfl); (intro V; go_simp; rfl)) | (apply wpOrdB_take rfl rfl (by kernel_rfl); (intro V hV; obtain ⟨s1, s2, s3, s4⟩ := hV; go_simp; rfl))); (try simp only [List.setIfInBounds_toArray, List.set_cons_succ, List.set_cons_zero]))
  apply wpOrdB_do rfl (by kernel_rfl)
  intro K hK
  go_simp
  refine hK _ _ ⟨(World.cell?_alloc_past _ _ _ hlt).trans c1, (World.cell?_alloc_past _ _ _ hlt).trans c2, (World.cell?_alloc_past _ _ _ hbl).trans c3, (World.cell?_alloc_past _ _ _ hbl).trans c4⟩ ?_
  clear hK K
  apply wpOrdB_do rfl (by kernel_rfl)
  intro K hK
  refine wp_append_row _ (.tmp 13) (.tmp 20) 60 rfl B 64 i0 (.agg #[.int .i64 0, .int .i64 0, .int .u64 0]) 3 24 Try.underlying60 hi hz0 hz1 hz2 rfl (by decide) sv L.length (tCs L) rfl (Row.drew (Row.alloc H1.row _)) ⟨W1.heap.size, 0, none⟩ 1 1 (tCells (v, n)) rfl rfl ?c1 ?c2 ?c3 ?c4 ?c5 ?_
  case c1 => exact tcells_new _ _ _
  case c2 => intro u hu; simp only [tCells, List.mem_cons, List.not_mem_nil, or_false] at hu; rcases hu with rfl | rfl | rfl <;> rfl
  case c3 => unfold maxLen; omega
  case c4 => omega
  case c5 => show B ≤ (W1.alloc _).heap.size; rw [World.size_alloc]; omega
  intro v2 w2 hrow hg _ hown
  have hrow2 : Row w2 B 64 3 v2 (L.length + 1) (tCs (L ++ [(v, n)])) := by rw [tCs_snoc]; exact hrow
  obtain ⟨P1, P2, P3⟩ := push_mem (n' := n + 1) H1 hB1 rfl hrow2 hg hown
  have d1 : w2.cell? ⟨h, 1, none⟩ = some sv := cell_of_row w2 h 1 _ _ _ P3
  have d2 : w2.cell? ⟨h, 2, none⟩ = some (.int .u64 n) := cell_of_row w2 h 2 _ _ _ P3
  have f1 : w2.frozen? ⟨h, 1, none⟩ = false := frozen_of_row w2 h 1 _ _ P3
  have f2 : w2.frozen? ⟨h, 2, none⟩ = false := frozen_of_row w2 h 2 _ _ P3
  have hb2 : w2.heap[W.heap.size]? = some (.cells #[.int .i64 v.1, .int .i64 v.2] 26 (0, 0)) := by
    rw [hg.block W.heap.size (by show _ < (W1.alloc _).heap.size; rw [World.size_alloc]; omega) (fun e => by have := (hrowB.out _ e.symm).2; omega)]
    exact (Below.heap_alloc W1 _ _ hbl).trans hbx
  refine hK _ _ ⟨d1, d2, cell_of_row _ _ 0 _ _ _ hb2, cell_of_row _ _ 1 _ _ _ hb2⟩ ?_
  clear hb2 hbx c3 c4
  clear hK K
  iterate 2 ((apply wpOrdB_takePure rfl rfl (by kernel_rfl); (intro V; go_simp; rfl)); (try simp only [List.setIfInBounds_toArray, List.set_cons_succ, List.set_cons_zero]))
  obtain ⟨av, capv, hv, hcap1, hcap2⟩ := hrow2.shape
  rw [hv] at P1 P2 hrow2 ⊢
  clear hv hrow hown hg
  apply wpOrdB_last rfl (by kernel_rfl)
  intro K hK
  go_simp
  refine hK _ _ (wpOrdB_nil ?_)
  clear hK K
  go_wp2_with fail
  have hc : ((n + 1 : Nat) : Int) = (n : Int) + 1 := by omega
  rw [hc] at P1 P2
  have P2 := T1.trans P2
  have hsz := P2.size
  have hI1 : I W := hI
  have P0 : tPushRel lt ok W B h G caps sv (L ++ [(v, n)]) L.length (n + 1) (.int .i64 L.length) ((w2.setCell ⟨h, 1, none⟩ (.slice av (L.length + 1) capv)).setCell ⟨h, 2, none⟩ (.int .u64 ((n : Int) + 1))) :=
    ⟨L.length, L ++ [(v, n)], _, rfl, by simp, rfl, rfl, hok', by unfold tAt; rw [List.length_append]; exact P1, P2⟩
  have HP := Lib.hid P0
  clear P0 P1 P2 P3 d1 d2 f1 f2 c0 c1 c2 hrow2 hcap1 hcap2 hi hz0 hz1 hz2 hc hsz hlt H1 T1 hb1 HW1
  go_loopw [5] (fun i wr => tPushRel lt ok W B h G caps sv (L ++ [(v, n)]) L.length (n + 1) i wr) (fun i _ => (intOf i).toNat)
  case atStart => exact HP.out
  case round =>
    obtain ⟨k, M, s, rfl, hk, hM, hup, hokM, hat, htt⟩ := hrel
    have hM' : M.length = L.length + 1 := by rw [hM]; simp
    by_cases h0 : 0 < k
    · obtain ⟨gb, capg, rfl, hgB, hgl, hgc, hgm, hcells, hfroz⟩ := hat.row.form (by omega)
      obtain ⟨u, hu, hu', hu2⟩ : ∃ u : Nat, ((k : Int) - 1) / 2 = (u : Int) ∧ Hid (u = (k - 1) / 2) ∧ u < k := ⟨(k - 1) / 2, by omega, Lib.hid rfl, by omega⟩
      have facts : ∀ V, tAt V B h G caps M (n + 1) (.slice (some ⟨gb, 0, none⟩) M.length capg) → V.cell? ⟨h, 1, none⟩ = some (.slice (some ⟨gb, 0, none⟩) M.length capg) ∧
          V.cell? ⟨gb, k * 3, none⟩ = some (.int .i64 (g M k).1.1) ∧ V.cell? ⟨gb, k * 3 + 1, none⟩ = some (.int .i64 (g M k).1.2) ∧ V.cell? ⟨gb, k * 3 + 2, none⟩ = some (.int .u64 (g M k).2) ∧ V.cell? ⟨gb, u * 3, none⟩ = some (.int .i64 (g M u).1.1) ∧ V.cell? ⟨gb, u * 3 + 1, none⟩ = some (.int .i64 (g M u).1.2) ∧ V.cell? ⟨gb, u * 3 + 2, none⟩ = some (.int .u64 (g M u).2) := fun V hV => by
        obtain ⟨gb', capg', he, _, _, _, _, hc', _⟩ := hV.row.form (by omega)
        simp only [Value.slice.injEq, Option.some.injEq, Addr.mk.injEq, and_true, true_and] at he
        obtain ⟨rfl, rfl⟩ := he
        have gk := tCs_get (L := M) hk
        have gu := tCs_get (L := M) (i := u) (by omega)
        exact ⟨hV.cell 1, (hc' _ (by omega)).trans gk.1, (hc' _ (by omega)).trans gk.2.1, (hc' _ (by omega)).trans gk.2.2, (hc' _ (by omega)).trans gu.1, (hc' _ (by omega)).trans gu.2.1, (hc' _ (by omega)).trans gu.2.2⟩
      have FF := Lib.hid facts
      have HA := Lib.hid hat
      have hul : u < M.length := by omega
      have HM := Lib.hid hM
      have HM' : M.length < 1000001 := by omega
      have HU := Lib.hid hup
      have HT := Lib.hid htt
      have okk : ok (g M k).1 := hokM _ (by rw [g_eq hk]; exact List.getElem_mem hk)
      have oku : ok (g M u).1 := hokM _ (by rw [g_eq hul]; exact List.getElem_mem hul)
      have HO := Lib.hid hokM
      have hwr := htt.size
      have hIr : I wr := O.stays _ _ (htt.below hB HA.out.low fun q hq => (hrowB.out q hq).1) hI
      have call : ∀ V, tAt V B h G caps M (n + 1) (.slice (some ⟨gb, 0, none⟩) M.length capg) ∧ Below wr.heap.size wr V →
          Calls Try.prog 29 #[.pointer (some ⟨h, 0, none⟩), .agg #[.int .i64 (g M k).1.1, .int .i64 (g M k).1.2, .int .u64 (g M k).2], .agg #[.int .i64 (g M u).1.1, .int .i64 (g M u).1.2, .int .u64 (g M u).2]] V fun e V' => e = .returned (.bool (lah lt (g M k) (g M u))) ∧ Below V.heap.size V V' := fun V hV =>
        tahead_any O _ _ _ _ V (HeapAt.cell hV.1 0) (by have := hV.2.size; omega) (O.stays _ _ (hV.2.mono (by omega)) hIr) okk oku
      have CC := Lib.hid call
      clear facts call hat hcells hfroz hM hM' hup htt hokM
      go_wp2_with fail
      rw [hu]
      refine wp_region_ord [(0, true), (1, true), (2, true), (3, true), (4, true), (5, true), (6, true), (7, true), (8, true), (9, true), (10, true), (11, true), (12, true), (13, true), (14, true), (15, false), (16, true)] (fun V => tAt V B h G caps M (n + 1) (.slice (some ⟨gb, 0, none⟩) M.length capg) ∧ Below wr.heap.size wr V) (by kernel_rfl) (by kernel_rfl) (by decide) (by kernel_rfl) (fun d _ _ _ _ h => by cases d <;> exact h) ⟨HA.out.drew, (Below.refl _ _).drew⟩ ?_
      iterate 15 ((apply wpOrd_take rfl rfl (by kernel_rfl); (intro V hV; obtain ⟨c0, c1, c2, c3, c4, c5, c6⟩ := FF.out V hV.1; go_simp; rfl)); (try simp only [List.setIfInBounds_toArray, List.set_cons_succ, List.set_cons_zero]))
      apply wpOrd_do rfl (by kernel_rfl)
      intro K hK
      go_wp2_with fail
      have S1 := Lib.hid (And.intro (HeapAt.drew HA.out) (Below.drew (Below.refl wr.heap.size wr)))
      refine (CC.out _ S1.out).mono ?_
      rintro e V1 ⟨rfl, hb1⟩
      have S2 := Lib.hid (And.intro (HeapAt.later S1.out.1 hb1) (Below.trans S1.out.2 hb1))
      refine hK _ _ S2.out ?_
      clear hK K hb1
      apply wpOrd_look rfl (by kernel_rfl)
      · intro V _; go_simp; rfl
      refine wpOrd_nil ?_
      cases hq : lah lt (g M k) (g M u) with
      | false =>
        have HQ := Lib.hid hq
        clear hq
        go_wp2_with fail
        go_ret
        exact tPush_end HU.out (up_end _ h0 (by rw [← hu'.out]; exact HQ.out)) HM.out S2.out.1 (HT.out.trans (Touch.of_below h _ S2.out.2))
      | true =>
        have HQ := Lib.hid hq
        clear hq
        go_wp2_with fail
        obtain ⟨c0, c1, c2, c3, c4, c5, c6⟩ := FF.out V1 S2.out.1
        have fz : ∀ j, j < M.length * 3 → V1.frozen? ⟨gb, j, none⟩ = false := fun j hj => by
          obtain ⟨gb', capg', he, _, _, _, _, _, hf⟩ := S2.out.1.row.form (by omega)
          simp only [Value.slice.injEq, Option.some.injEq, Addr.mk.injEq, and_true, true_and] at he
          obtain ⟨rfl, rfl⟩ := he
          exact hf j hj
        have z1 := fz (k * 3) (by omega)
        have z2 := fz (k * 3 + 1) (by omega)
        have z7 := fz (k * 3 + 2) (by omega)
        have z3 := fz (u * 3) (by omega)
        have z4 := fz (u * 3 + 1) (by omega)
        have z8 := fz (u * 3 + 2) (by omega)
        clear fz
        refine wp_region_ordB [(0, 1), (1, 1), (2, 1), (3, 0), (4, 1), (5, 1), (6, 1), (7, 1), (8, 0), (9, 1), (10, 1), (11, 1), (12, 1), (13, 0), (14, 1), (15, 1), (16, 0), (17, 1), (18, 1), (19, 1), (20, 0), (21, 1), (22, 1), (23, 0), (24, 1), (25, 3), (26, 1), (27, 3)] [25, 27] (fun V => tAt V B h G caps M (n + 1) (.slice (some ⟨gb, 0, none⟩) M.length capg)) (by kernel_rfl) (by kernel_rfl) (by decide) (by kernel_rfl) (fun d _ _ _ _ h => by cases d <;> exact h) (HeapAt.drew S2.out.1) ?_
        iterate 25 ((first | (apply wpOrdB_takePure rfl rfl (by kernel_rfl); (intro V; go_simp; rfl)) | (apply wpOrdB_take rfl rfl (by kernel_rfl); (intro V hV; obtain ⟨c0, c1, c2, c3, c4, c5, c6⟩ := FF.out V hV; go_simp; rfl))); (try simp only [List.setIfInBounds_toArray, List.set_cons_succ, List.set_cons_zero]))
        obtain ⟨SM1, SM2, e3, e4, e5, z5, z6, z9⟩ := tswap_mem S2.out.1 hk hul (by omega)
        apply wpOrdB_last rfl (by kernel_rfl)
        intro K hK
        go_simp
        refine hK _ _ ?_
        clear hK K
        apply wpOrdB_takePure rfl rfl (by kernel_rfl)
        · intro V; go_simp; rfl
        (try simp only [List.setIfInBounds_toArray, List.set_cons_succ, List.set_cons_zero])
        apply wpOrdB_last rfl (by kernel_rfl)
        intro K hK
        go_simp
        refine hK _ _ (wpOrdB_nil ?_)
        clear hK K
        have SMM := Lib.hid (And.intro SM1 SM2)
        clear SM1 SM2 e3 e4 e5 z5 z6 z9 z1 z2 z3 z4 z7 z8 c0 c1 c2 c3 c4 c5 c6
        go_wp2_with fail
        go_roundw
        case rel => exact ⟨u, sw M k u, _, rfl, by rw [sw_length]; exact hul, by rw [sw_length]; exact HM.out, tPush_up HU.out h0 hu'.out HQ.out, fun x hx => HO.out x ((sw_perm hk hul).mem_iff.1 hx), HeapAt.drew SMM.out.1, ((HT.out.trans (Touch.of_below h _ S2.out.2)).trans SMM.out.2).drew⟩
        case measure => simp [intOf]; omega
    · obtain rfl : k = 0 := by omega
      go_wp2_with fail
      go_ret
      exact tPush_end hup (up_zero _ _) hM hat htt
end Go.Proofs.Ytbigglcolfbglaa
