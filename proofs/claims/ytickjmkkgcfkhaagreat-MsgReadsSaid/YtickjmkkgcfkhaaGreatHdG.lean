/- Contract of bits.Bytes: a bit string's bytes at a width. -/
import Derived.Test.YtickjmkkgcfkhaaGreatHdF
import Derived.Laws.OwnMore
set_option linter.unusedSimpArgs false
set_option linter.unusedVariables false
set_option maxRecDepth 100000
namespace Go.Proofs.YtickjmkkgcfkhaaGreat
open Go.RowKit Go.ChangeShapes Go.WideShapes

/-- So many bytes are laid, behind them there are zeros. -/
def lebF (N k m : Nat) : List UInt8 := leB N k ++ List.replicate (m - k) 0
theorem lebF_zero (N m : Nat) : lebF N 0 m = List.replicate m 0 := by simp [lebF, leB]
theorem lebF_end (N m : Nat) : lebF N m m = leB N m := by simp [lebF]
theorem lebF_len {N k m : Nat} (h : k ≤ m) : (lebF N k m).length = m := by simp [lebF, leB_len]; omega
theorem lebF_step {N k m : Nat} (h : k < m) : (lebF N k m).set k (toU8 (N / 256 ^ k)) = lebF N (k + 1) m := by
  unfold lebF
  obtain ⟨d, hd⟩ : ∃ d, m - k = d + 1 := ⟨m - k - 1, by omega⟩
  rw [hd, List.replicate_succ, List.set_append_right _ _ (by rw [leB_len]; exact Nat.le_refl _), leB_len, Nat.sub_self, leB_snoc, show m - (k + 1) = d from by omega]
  simp
def BytRel (W : World) (x : Bt) (g m : Nat) (i : Value) (wr : World) : Prop :=
  ∃ k : Nat, i = .int .i64 k ∧ k ≤ m ∧ BoxBt W.heap.size x wr ∧ Row wr (W.heap.size + 1) 5 1 (.slice (some ⟨g, 0, none⟩) m m) m ((lebF x.num k m).map byteV) ∧ Below W.heap.size W wr
set_option maxRecDepth 100000 in
set_option maxHeartbeats 3200000 in
theorem bbytes_any (x : Bt) (m : Nat) (W : World) (hx : x.ok) (hm0 : 0 < m) (hm : m ≤ 32) (hbl : below x (8 * (m : Int)) = true) :
    Calls Tryz.prog 86 #[x.ag, .int .i64 (8 * (m : Int))] W fun e W' => e = .returned (.tuple #[.string (bs (leB x.num m)), .int .i64 0]) ∧ Below W.heap.size W W' := by
  obtain ⟨W1, hW1⟩ : ∃ W1, W1 = W.alloc (.cells x.cs 30) := ⟨_, rfl⟩
  have hb1 : Below W.heap.size W W1 := by rw [hW1]; exact (Below.refl _ _).alloc (Nat.le_refl _) _
  have hbx : BoxBt W.heap.size x W1 := by rw [hW1]; exact heap_alloc_new _ _
  have hsz : W1.heap.size = W.heap.size + 1 := by rw [hW1, World.size_alloc]
  obtain ⟨x0, x1, x2, x3⟩ := hbx.cells
  obtain ⟨i0, hi, hz0, hz1, hz2⟩ := info_parts Tryz.infoU8
  have HB1 := Lib.hid hb1
  have HW1 := Lib.hid hW1
  have HBX := Lib.hid hbx
  have HX := Lib.hid hx
  have HSZ := Lib.hid hsz
  have HBL := Lib.hid (below_any x (8 * (m : Int)) W1 hx ⟨by omega, by omega⟩)
  have HT := Lib.hid hbl
  have d1 : decide (8 * (m : Int) < 8) = false := decide_eq_false (by omega)
  have d2 : decide (256 < 8 * (m : Int)) = false := decide_eq_false (by omega)
  have d3 : (8 * (m : Int)).tmod 8 = 0 := by rw [Int.tmod_eq_emod_of_nonneg (by omega)]; omega
  have d4 : (8 * (m : Int)) % 8 = 0 := by omega
  have d5 : (8 * (m : Int)).tdiv 8 = (m : Int) := by rw [Int.tdiv_eq_ediv_of_nonneg (by omega)]; omega
  have d6 : (8 * (m : Int)) / 8 = (m : Int) := by omega
  clear hW1 hb1 hbx hx hbl hsz
  go_enter Tryz.func86, Tryz.ntmps86
  unfold Bt.ag Bt.cs at *
  go_wp2_with fail
  rw [← HW1.out]
  refine HBL.out.mono ?_
  rintro e V ⟨rfl, hb⟩
  rw [HT.out]
  have HBX2 := Lib.hid (HBX.out.later hb)
  have HB2 := Lib.hid (HB1.out.trans (hb.mono HB1.out.size))
  have HS2 := Lib.hid (show W.heap.size + 1 ≤ V.heap.size by have := hb.size; have := HSZ.out; omega)
  clear hb x0 x1 x2 x3
  go_wp2_with (at_make; refine wpList_make_full _ rfl (.tmp 26) (.tmp 26) 90 rfl (W.heap.size + 1) 5 i0 (.int .u8 0) 1 Tryz.underlying90 hi hz0 hz1 .i64 .i64 m m m rfl rfl rfl rfl ?c1 ?c2 ?c3 ?_)
  case c1 => rw [hz2]; omega
  case c2 => unfold maxLen; omega
  case c3 => exact HS2.out
  intro w3 hown3 hg3
  obtain ⟨g, hg⟩ : ∃ g, g = V.heap.size := ⟨_, rfl⟩
  rw [← hg] at hown3 ⊢
  have hrow := Row.of_own hown3
  have hb3 : Below V.heap.size V w3 := ⟨hg3.os, hg3.tape, hg3.output, hg3.size, fun k hk => hg3.block k hk (by simp)⟩
  have hgt : W.heap.size < g := by have := HS2.out; omega
  have H0 := Lib.hid (show BytRel W x g m (.int .i64 0) w3 from ⟨0, rfl, by omega, HBX2.out.later hb3, by
    rw [lebF_zero, List.map_replicate]
    have e : (madeCells #[Value.int IntKind.u8 0] m).toList = List.replicate m (byteV 0) := toList_madeCells_one _ _
    rw [← e]
    exact hrow, HB2.out.trans (hb3.mono HB2.out.size)⟩)
  have HGT := Lib.hid hgt
  clear hown3 hg3 hrow hb3 hgt hg
  go_wp2_with fail
  go_loopw [30] (fun i wr => BytRel W x g m i wr) (fun i _ => m - (intOf i).toNat)
  case atStart => exact H0.out
  case round =>
    obtain ⟨k, rfl, hk, hbx, hrow, hbel⟩ := hrel
    by_cases hlt : k < m
    · obtain ⟨q, hq⟩ : ∃ q, q = k / 8 := ⟨_, rfl⟩
      obtain ⟨j, hj⟩ : ∃ j, j = k % 8 := ⟨_, rfl⟩
      have q1 : (k : Int).tdiv 8 = (q : Int) := by rw [Int.tdiv_eq_ediv_of_nonneg (by omega)]; omega
      have q2 : (k : Int) / 8 = (q : Int) := by omega
      have j1 : (k : Int).tmod 8 = (j : Int) := by rw [Int.tmod_eq_emod_of_nonneg (by omega)]; omega
      have j2 : (k : Int) % 8 = (j : Int) := by omega
      have hq4 : q < 4 := by omega
      have hj8 : j < 8 := by omega
      have hcw : wr.cell? ⟨W.heap.size, q, none⟩ = some (.int .u64 (x.w q)) := by
        obtain ⟨y0, y1, y2, y3⟩ := hbx.cells
        obtain h | h | h | h : q = 0 ∨ q = 1 ∨ q = 2 ∨ q = 3 := by omega
        all_goals (rw [h]; assumption)
      have hwl := Bt.w_lt HX.out q
      have hlen : ((lebF x.num k m).map byteV).length = m := by rw [List.length_map, lebF_len hk]
      obtain ⟨g', cap', hv, _, hglt, _, _, hcells, hfrz⟩ := Row.form hrow (by omega)
      simp only [Value.slice.injEq, Option.some.injEq, Addr.mk.injEq, and_true, true_and] at hv
      obtain ⟨rfl, rfl⟩ := hv
      obtain ⟨u0, hu0⟩ : ∃ u0, ((lebF x.num k m).map byteV)[k]? = some u0 := ⟨_, List.getElem?_eq_getElem (by rw [hlen]; exact hlt)⟩
      have hc0 := (hcells k (by omega)).trans hu0
      have hf0 := hfrz k (by omega)
      obtain ⟨v, hv⟩ : ∃ v : Value, v = .int .u8 (((x.w q : Nat) : Int) / 2 ^ (8 * j) % 256) := ⟨_, rfl⟩
      obtain ⟨hst, hgr⟩ := Row.stored hrow k v
      have hvb : v = byteV (toU8 (x.num / 256 ^ k)) := by
        rw [hv]
        unfold byteV
        rw [toU8_toNat, ← byte_of_words HX.out (show k < 32 by omega), ← hq, ← hj]
        simp
      have HREL := Lib.hid (show BytRel W x g m (.int .i64 ((k + 1 : Nat) : Int)) (wr.setCell ⟨g, k, none⟩ v) from
        ⟨k + 1, rfl, by omega, (heap_setCell_other _ _ _ _ (by have := HGT.out; simp only; omega)).trans hbx, by
          rw [← lebF_step hlt, List.map_set, ← hvb]; exact hst, hbel.setCell (by have := HGT.out; simp only; omega) _⟩)
      have HV := Lib.hid hv
      clear hq hj hbx hrow hbel hst hgr hvb hv hcells hfrz hlen hu0
      go_wp2_with fail
      go_roundw
      case rel => rw [← HV.out, show (k : Int) + 1 = ((k + 1 : Nat) : Int) from by simp]; exact HREL.out
      case measure => simp [intOf]; omega
    · obtain rfl : k = m := by omega
      rw [lebF_end] at hrow
      have HB := Lib.hid hbel
      clear hbel hbx
      go_wp2_with (with_reducible show wpList _ _ _ (⟨some 47, _, _, _, _, _⟩ :: _) _ _; refine wpList_string_row rfl (.tmp 46) 90 9 5 rfl Tryz.underlying90 Tryz.underlying5 Tryz.underlying9 _ hrow rfl ?_)
      go_ret2
      exact ⟨rfl, HB.out⟩

end Go.Proofs.YtickjmkkgcfkhaaGreat
