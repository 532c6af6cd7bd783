/- Contract of bits.Read: the bit string of bytes. -/
import Derived.Test.YtickjmkkgcfkhaaGreatHdG
set_option linter.unusedSimpArgs false
set_option linter.unusedVariables false
set_option maxRecDepth 100000
namespace Go.Proofs.YtickjmkkgcfkhaaGreat
open Go.RowKit Go.ChangeShapes Go.WideShapes

theorem wcs_get (x : Bt) (i : Nat) (hi : i < 4) : x.cs[i]? = some (.int .u64 (x.w i)) := by
  obtain h | h | h | h : i = 0 ∨ i = 1 ∨ i = 2 ∨ i = 3 := by omega
  all_goals (rw [h]; rfl)
/-- The words, a byte more. -/
theorem word_set {l : List UInt8} {k : Nat} (hk : k < l.length) (hl : l.length ≤ 32) :
    (Bt.of (leVal (l.take k))).cs.setIfInBounds (k / 8) (.int .u64 (((Bt.of (leVal (l.take k))).w (k / 8) ||| l[k].toNat * 2 ^ (8 * (k % 8)) : Nat) : Int)) = (Bt.of (leVal (l.take (k + 1)))).cs := by
  have hn : leVal (l.take k) < 256 ^ k := by
    have := leVal_lt (l.take k)
    rwa [List.length_take, Nat.min_eq_left (by omega)] at this
  have hs : leVal (l.take (k + 1)) = leVal (l.take k) + l[k].toNat * 256 ^ k := by
    rw [List.take_succ_eq_append_getElem hk, leVal_snoc, List.length_take, Nat.min_eq_left (by omega)]
  rw [hs, word_more (by omega) hn l[k].toNat_lt]
  obtain h | h | h | h : k / 8 = 0 ∨ k / 8 = 1 ∨ k / 8 = 2 ∨ k / 8 = 3 := by omega
  · rw [h, if_pos rfl]; rfl
  · rw [h, if_neg (by decide), if_pos rfl]; rfl
  · rw [h, if_neg (by decide), if_neg (by decide), if_pos rfl]; rfl
  · rw [h, if_neg (by decide), if_neg (by decide), if_neg (by decide)]; rfl
theorem or_word (w : Nat) (x : UInt8) (j : Nat) (hw : w < 18446744073709551616) (hj : j < 8) :
    bits .or .u64 (w : Int) (IntKind.u64.wrap (IntKind.u64.wrap (x.toNat : Int) * 2 ^ (8 * j))) = ((w ||| x.toNat * 2 ^ (8 * j) : Nat) : Int) := by
  have hx := x.toNat_lt
  have hp : (2 : Nat) ^ (8 * j) ≤ 72057594037927936 := Nat.le_trans (Nat.pow_le_pow_right (by decide) (show 8 * j ≤ 56 by omega)) (by decide)
  have hm : x.toNat * 2 ^ (8 * j) ≤ 255 * 72057594037927936 := Nat.mul_le_mul (by omega) hp
  have e : ((x.toNat : Int) * 2 ^ (8 * j)) = ((x.toNat * 2 ^ (8 * j) : Nat) : Int) := by simp
  rw [IntWalk.u64_in (x.toNat : Int) (by omega), e, IntWalk.u64_in _ (by omega), u64_or_nat _ _ hw (by omega)]
def ReadRel (W : World) (l : List UInt8) (i : Value) (wr : World) : Prop :=
  ∃ k : Nat, i = .int .i64 k ∧ k ≤ l.length ∧ BoxBt (W.heap.size + 1) (Bt.of (leVal (l.take k))) wr ∧ BoxBt W.heap.size Bt.zero wr ∧ Below W.heap.size W wr

set_option maxRecDepth 100000 in
set_option maxHeartbeats 3200000 in
theorem bread_any (s : ByteArray) (W : World) (h0 : 0 < s.size) (h32 : s.size ≤ 32) :
    Calls Tryz.prog 90 #[.string s] W fun e W' => e = .returned (.tuple #[(Bt.of (leVal s.data.toList)).ag, .int .i64 0]) ∧ Below W.heap.size W W' := by
  obtain ⟨W1, hW1⟩ : ∃ W1, W1 = (W.alloc (.cells #[.int .u64 0, .int .u64 0, .int .u64 0, .int .u64 0] 30)).alloc (.cells #[.int .u64 0, .int .u64 0, .int .u64 0, .int .u64 0] 30) := ⟨_, rfl⟩
  have hb1 : Below W.heap.size W W1 := by rw [hW1]; exact ((Below.refl _ _).alloc (Nat.le_refl _) _).alloc (by rw [World.size_alloc]; omega) _
  have hlen : s.data.toList.length = s.size := size_eq s
  have H0 := Lib.hid (show ReadRel W s.data.toList (.int .i64 0) W1 from ⟨0, rfl, Nat.zero_le _, by rw [List.take_zero, show Bt.of (leVal []) = Bt.zero from by decide +kernel, hW1]; exact heap_alloc2_new _ _ _, by rw [hW1]; exact heap_alloc2_old _ _ _, hb1⟩)
  have HW1 := Lib.hid hW1
  have HLEN := Lib.hid hlen
  have hem : s.toList.isEmpty = false := by
    rw [ByteArray.toList_eq, ← Bool.not_eq_true, List.isEmpty_iff]
    intro h
    have h1 : s.data.toList.length = 0 := by rw [h]; rfl
    omega
  have hd : decide (32 < (s.size : Int)) = false := decide_eq_false (by omega)
  clear hW1 hb1 hlen
  go_enter Tryz.func90, Tryz.ntmps90
  go_wp2_with fail
  rw [← HW1.out]
  go_loopw [16] (fun i wr => ReadRel W s.data.toList i wr) (fun i _ => s.size - (intOf i).toNat)
  case atStart => exact H0.out
  case round =>
    obtain ⟨k, rfl, hk, hbx, hbz, hbel⟩ := hrel
    rw [HLEN.out] at hk
    by_cases hlt : k < s.size
    · obtain ⟨q, hq⟩ : ∃ q, q = k / 8 := ⟨_, rfl⟩
      obtain ⟨j, hj⟩ : ∃ j, j = k % 8 := ⟨_, rfl⟩
      have q1 : (k : Int).tdiv 8 = (q : Int) := by rw [Int.tdiv_eq_ediv_of_nonneg (by omega)]; omega
      have q2 : (k : Int) / 8 = (q : Int) := by omega
      have j1 : (k : Int).tmod 8 = (j : Int) := by rw [Int.tmod_eq_emod_of_nonneg (by omega)]; omega
      have j2 : (k : Int) % 8 = (j : Int) := by omega
      have hq4 : q < 4 := by omega
      have hq4i : (q : Int) < 4 := by omega
      have hlti : (k : Int) < (s.size : Int) := by omega
      have hj0 : (0 : Int) ≤ 8 * (j : Int) := by omega
      have hwq : IntKind.i64.wrap (q : Int) = (q : Int) := IntWalk.i64_in _ (by omega)
      have hwj : IntKind.i64.wrap (j : Int) = (j : Int) := IntWalk.i64_in _ (by omega)
      have hwj8 : IntKind.i64.wrap (8 * (j : Int)) = 8 * (j : Int) := IntWalk.i64_in _ (by omega)
      have hj8 : j < 8 := by omega
      have hkl : k < s.data.toList.length := by rw [HLEN.out]; exact hlt
      obtain ⟨x, hx⟩ : ∃ x, x = Bt.of (leVal (s.data.toList.take k)) := ⟨_, rfl⟩
      have hxo : x.ok := hx ▸ Bt.of_ok _
      have hwl := Bt.w_lt hxo q
      have hset := word_set hkl (by rw [HLEN.out]; exact h32)
      rw [← hx] at hbx hset
      rw [← hq, ← hj] at hset
      have hcw : ∀ V, BoxBt (W.heap.size + 1) x V → V.cell? ⟨W.heap.size + 1, q, none⟩ = some (.int .u64 (x.w q)) ∧ V.frozen? ⟨W.heap.size + 1, q, none⟩ = false := fun V hV => by
        have h1 := wcs_get x q hq4
        refine ⟨?_, frozen_of_row _ _ _ _ _ hV⟩
        rw [cell_of_row _ _ q _ _ _ hV]
        exact h1
      have hse : s.data.toList[k] = s[k] := rfl
      rw [hse] at hset
      have hor := or_word (x.w q) s[k] j hwl hj8
      obtain ⟨U, hU⟩ : ∃ U, U = wr.drew := ⟨_, rfl⟩
      have hbU : Below wr.heap.size wr U := by rw [hU]; exact ⟨rfl, rfl, rfl, Nat.le_refl _, fun _ _ => rfl⟩
      have HBX := Lib.hid (hbx.later hbU)
      have HREL := Lib.hid (show ReadRel W s.data.toList (.int .i64 ((k + 1 : Nat) : Int)) (U.setCell ⟨W.heap.size + 1, q, none⟩ (.int .u64 ((x.w q ||| s[k].toNat * 2 ^ (8 * j) : Nat) : Int))) from
        ⟨k + 1, rfl, by rw [HLEN.out]; omega, by
          have h1 := heap_setCell_same U (W.heap.size + 1) q _ _ (.int .u64 ((x.w q ||| s[k].toNat * 2 ^ (8 * j) : Nat) : Int)) (hbx.later hbU)
          rw [hset] at h1
          exact h1, (heap_setCell_other _ _ _ _ (by simp only; omega)).trans (hbz.later hbU), (hbel.trans (hbU.mono hbel.size)).setCell (by simp only; omega) _⟩)
      have HOR := Lib.hid hor
      have HCW := Lib.hid hcw
      have HU := Lib.hid hU
      clear hq hj hbx hbz hbel hx hxo hset hcw hor hU hbU hse
      go_wp2_with fail
      refine wp_region_ordB [(0, 1), (1, 1), (2, 1), (3, 0), (4, 1), (5, 1), (6, 1), (7, 1), (8, 1), (9, 1), (10, 1), (11, 1), (12, 1), (13, 1), (14, 3)] [14] (BoxBt (W.heap.size + 1) x) (by kernel_rfl) (by kernel_rfl) (by decide) (by kernel_rfl) (fun d _ _ _ _ h => by cases d <;> exact h) (by rw [← HU.out]; exact HBX.out) ?_
      rw [← HU.out]
      iterate 14 ((first | (apply wpOrdB_takePure rfl rfl (by kernel_rfl); (intro V; go_simp; rfl)) | (apply wpOrdB_take rfl rfl (by kernel_rfl); (intro V hV; obtain ⟨c0, c1⟩ := HCW.out V hV; go_simp; rfl))); (try simp only [List.setIfInBounds_toArray, List.set_cons_succ, List.set_cons_zero]))
      apply wpOrdB_last rfl (by kernel_rfl)
      intro K hK
      obtain ⟨c0, c1⟩ := HCW.out U HBX.out
      go_simp
      refine hK _ _ (wpOrdB_nil ?_)
      clear hK K c0 c1
      have hkw : IntKind.i64.wrap ((k : Int) + 1) = (k : Int) + 1 := IntWalk.i64_in _ (by omega)
      rw [show (8 * (j : Int)).toNat = 8 * j from by omega, HOR.out]
      go_wp2_with fail
      go_roundw
      case rel => exact HREL.out
      case measure => simp [intOf]; omega
    · obtain rfl : k = s.size := by omega
      rw [List.take_of_length_le (by rw [HLEN.out]; exact Nat.le_refl _)] at hbx
      obtain ⟨x, hx⟩ : ∃ x, x = Bt.of (leVal s.data.toList) := ⟨_, rfl⟩
      rw [← hx] at hbx
      have HX := Lib.hid hx
      obtain ⟨x0, x1, x2, x3⟩ := hbx.cells
      obtain ⟨z0, z1, z2, z3⟩ := hbz.cells
      have k0 : wr.frozen? ⟨W.heap.size, 0, none⟩ = false := frozen_of_row _ _ _ _ _ hbz
      have k1 : wr.frozen? ⟨W.heap.size, 1, none⟩ = false := frozen_of_row _ _ _ _ _ hbz
      have k2 : wr.frozen? ⟨W.heap.size, 2, none⟩ = false := frozen_of_row _ _ _ _ _ hbz
      have k3 : wr.frozen? ⟨W.heap.size, 3, none⟩ = false := frozen_of_row _ _ _ _ _ hbz
      have HB := Lib.hid hbel
      clear hbel hbx hbz hx
      go_wp2_with fail
      refine bodyPost_ret (v := .tuple #[.agg #[.int .u64 x.a, .int .u64 x.b, .int .u64 x.c, .int .u64 x.d], .int .i64 0]) ?_ rfl ⟨by rw [← HX.out]; rfl, ?_⟩
      · simp only [results, Tryz.results90]
        go_simp
      · repeat (with_reducible refine Below.setCell ?_ (by simp only; omega) _)
        exact HB.out

end Go.Proofs.YtickjmkkgcfkhaaGreat
