/- Contract of the reference's Bytes: its walk. -/
import Derived.Test.YtbcgfojdlehnpaaHdRF
set_option linter.unusedSimpArgs false
set_option linter.unusedVariables false
namespace Go.Proofs.Ytbcgfojdlehnpaa
open Go.RowKit Go.ChangeShapes Go.WideShapes

theorem upto_take (x : Bt) : ∀ n k z, (x.upto n)[k]? = some z → (x.upto n).take k = x.upto (z - 1) ∧ 1 ≤ z ∧ z ≤ n
  | 0, k, z, h => by simp [Bt.upto] at h
  | n + 1, k, z, h => by
    rw [Bt.upto] at h ⊢
    split at h
    · rename_i hb
      rw [if_pos hb]
      by_cases hk : k < (x.upto n).length
      · rw [List.getElem?_append_left hk] at h
        obtain ⟨h1, h2, h3⟩ := upto_take x n k z h
        exact ⟨by rw [List.take_append_of_le_length (by omega), h1], h2, by omega⟩
      · have hk2 : k = (x.upto n).length := by
          have h5 := (List.getElem?_eq_some_iff.1 h).1
          rw [List.length_append, List.length_singleton] at h5
          omega
        subst hk2
        rw [List.getElem?_append_right (Nat.le_refl _), Nat.sub_self] at h
        simp only [List.getElem?_cons_zero, Option.some.injEq] at h
        subst h
        exact ⟨by rw [List.take_left, Nat.add_sub_cancel], by omega, Nat.le_refl _⟩
    · rename_i hb
      rw [if_neg hb]
      obtain ⟨h1, h2, h3⟩ := upto_take x n k z h
      exact ⟨h1, h2, by omega⟩
theorem byteV_lt {v : Nat} (h : v < 256) : byteV (toU8 v) = .int .u8 (v : Int) := byteV_small h
def RByRel (W : World) (x : Bt) (l : List Nat) (g m : Nat) (la : Option Addr) (lcap : Nat) (i : Value) (wr : World) : Prop :=
  ∃ k : Nat, i = .int .i64 k ∧ k ≤ l.length ∧ Row wr (W.heap.size + 1) 5 1 (.slice (some ⟨g, 0, none⟩) m m) m ((leB (numU (l.take k)) m).map byteV) ∧ Row wr (g + 1) 3 1 (.slice la l.length lcap) l.length (intsV l) ∧ Below W.heap.size W wr
set_option maxRecDepth 100000 in
set_option maxHeartbeats 6400000 in
theorem rbbytes_any (x : Bt) (m : Nat) (W : World) (hx : x.ok) (hm0 : 0 < m) (hm : m ≤ 32) (hbl : below x (8 * (m : Int)) = true) :
    Calls Try.prog 43 #[x.ag, .int .i64 (8 * (m : Int))] W fun e W' => e = .returned (.tuple #[.string (bs (leB x.num m)), .int .i64 0]) ∧ Below W.heap.size W W' := by
  obtain ⟨W1, hW1⟩ : ∃ W1, W1 = W.alloc (.cells x.cs 25) := ⟨_, rfl⟩
  have hb1 : Below W.heap.size W W1 := by rw [hW1]; exact (Below.refl _ _).alloc (Nat.le_refl _) _
  have hbx : BoxBt W.heap.size x W1 := by rw [hW1]; exact heap_alloc_new _ _
  have hsz : W1.heap.size = W.heap.size + 1 := by rw [hW1, World.size_alloc]
  obtain ⟨x0, x1, x2, x3⟩ := hbx.cells
  obtain ⟨i0, hi, hz0, hz1, hz2⟩ := info_parts Try.infoU8
  have HB1 := Lib.hid hb1
  have HBX := Lib.hid hbx
  have HX := Lib.hid hx
  have HSZ := Lib.hid hsz
  have HBL := Lib.hid (rbelow_any x (8 * (m : Int)) W1 hx ⟨by omega, by omega⟩)
  have HT := Lib.hid hbl
  have HUP := Lib.hid (show ∀ z ∈ x.upto 256, z ≤ 8 * m by
    simp only [below, decide_eq_true_eq] at hbl
    rw [show (8 * (m : Int)) = ((8 * m : Nat) : Int) from by simp, Int.toNat_natCast] at hbl
    exact (below_upto hx (by omega)).1 hbl.2.2)
  have HNL := Lib.hid (fun V => list1_any x V hx)
  have d1 : decide (8 * (m : Int) < 8) = false := decide_eq_false (by omega)
  have d2 : decide (256 < 8 * (m : Int)) = false := decide_eq_false (by omega)
  have d3 : (8 * (m : Int)).tmod 8 = 0 := by rw [Int.tmod_eq_emod_of_nonneg (by omega)]; omega
  have d4 : (8 * (m : Int)) % 8 = 0 := by omega
  have d5 : (8 * (m : Int)).tdiv 8 = (m : Int) := by rw [Int.tdiv_eq_ediv_of_nonneg (by omega)]; omega
  have d6 : (8 * (m : Int)) / 8 = (m : Int) := by omega
  unfold Bt.cs at hW1
  have HW1 := Lib.hid hW1
  clear hW1 hb1 hbx hx hbl hsz
  go_enter Try.func43, Try.ntmps43
  unfold Bt.ag Bt.cs at *
  go_wp2_with fail
  rw [← HW1.out]
  refine HBL.out.mono ?_
  rintro e V ⟨rfl, hb⟩
  rw [HT.out]
  have HBX2 := Lib.hid (HBX.out.later hb)
  have HB2 := Lib.hid (HB1.out.trans (hb.mono HB1.out.size))
  have HS2 := Lib.hid (show W.heap.size + 1 ≤ V.heap.size by have := hb.size; have := HSZ.out; omega)
  clear hb x0 x1 x2 x3
  go_wp2_with (at_make; refine wpList_make_full _ rfl (.tmp 26) (.tmp 26) 40 rfl (W.heap.size + 1) 5 i0 (.int .u8 0) 1 Try.underlying40 hi hz0 hz1 .i64 .i64 m m m rfl rfl rfl rfl ?c1 ?c2 ?c3 ?_)
  case c1 => rw [hz2]; omega
  case c2 => unfold maxLen; omega
  case c3 => exact HS2.out
  intro w3 hown3 hg3
  obtain ⟨g, hg⟩ : ∃ g, g = V.heap.size := ⟨_, rfl⟩
  rw [← hg] at hown3 ⊢
  have hrow := Row.of_own hown3
  have hb3 : Below V.heap.size V w3 := ⟨hg3.os, hg3.tape, hg3.output, hg3.size, fun k hk => hg3.block k hk (by simp)⟩
  have HGT := Lib.hid (show W.heap.size < g by have := HS2.out; omega)
  have HG3 := Lib.hid (show g + 1 ≤ w3.heap.size by
    have := hrow.lt g rfl
    omega)
  have e : (madeCells (Value.int IntKind.u8 0).cells (m * 1)).toList = (leB 0 m).map byteV := by
    rw [Nat.mul_one]
    have h1 : leB 0 m = List.replicate m 0 := by
      have : ∀ m, leB 0 m = List.replicate m 0 := fun m => by
        induction m with
        | zero => rfl
        | succ m ih => rw [leB, ih]; rfl
      exact this m
    rw [h1, List.map_replicate]
    exact toList_madeCells_one _ _
  have HR3 := Lib.hid (show Row w3 (W.heap.size + 1) 5 1 (.slice (some ⟨g, 0, none⟩) m m) m ((leB 0 m).map byteV) by
    first | (rw [← e]; exact hrow) | (rw [Nat.mul_one] at e; rw [← e]; exact hrow))
  have HBX3 := Lib.hid (HBX2.out.later hb3)
  have HB3 := Lib.hid (HB2.out.trans (hb3.mono HB2.out.size))
  obtain ⟨x0, x1, x2, x3⟩ := BoxBt.cells HBX3.out
  clear hown3 hg3 hrow hb3 hg e
  go_wp2_with fail
  refine (HNL.out _).mono ?_
  rintro e V4 ⟨vl, rfl, hrl, hb⟩
  obtain ⟨l, hl⟩ : ∃ l, l = x.upto 256 := ⟨_, rfl⟩
  have hll := Bt.upto_len x 256
  have HTK := Lib.hid (upto_take x 256)
  have HNU := Lib.hid (fun k hk => numU_upto HX.out k hk)
  have HALL := Lib.hid (show numU l = x.num by
    rw [hl, HNU.out 256 (Nat.le_refl _)]
    exact Nat.mod_eq_of_lt (Bt.num_lt HX.out))
  rw [← hl] at hrl hll HTK HUP
  obtain ⟨la, lcap, rfl, _, _⟩ := hrl.shape
  have H0 := Lib.hid (show RByRel W x l g m la lcap (.int .i64 0) V4 from ⟨0, rfl, Nat.zero_le _, by rw [List.take_zero]; exact HR3.out.later hb, hrl.more HG3.out, HB3.out.trans (hb.mono HB3.out.size)⟩)
  clear hb hrl hl x0 x1 x2 x3
  go_wp2_with fail
  go_loopw [8] (fun i wr => RByRel W x l g m la lcap i wr) (fun i _ => 300 - (intOf i).toNat)
  case atStart => exact H0.out
  case round =>
    obtain ⟨k, rfl, hk, hrow, hrl, hbel⟩ := hrel
    by_cases hlt : k < l.length
    · obtain ⟨z, hz⟩ : ∃ z, l[k]? = some z := ⟨_, List.getElem?_eq_getElem hlt⟩
      obtain ⟨t1, t2, t3⟩ := HTK.out k z hz
      have hz8 : z ≤ 8 * m := HUP.out z (List.mem_of_getElem? hz)
      obtain ⟨b, rfl⟩ : ∃ b, z = b + 1 := ⟨z - 1, by omega⟩
      rw [Nat.add_sub_cancel] at t1
      obtain ⟨N, hN⟩ : ∃ N, N = numU (l.take k) := ⟨_, rfl⟩
      have hNlt : N < 2 ^ b := by
        rw [hN, t1, HNU.out b (by omega)]
        exact Nat.mod_lt _ (Nat.pow_pos (by decide))
      have hNs : numU (l.take (k + 1)) = N + 2 ^ b := by
        obtain ⟨hlt2, he⟩ := List.getElem?_eq_some_iff.1 hz
        rw [List.take_succ_eq_append_getElem hlt2, numU_append, ← hN, he]
        simp [numU]
      rw [← hN] at hrow
      obtain ⟨q, hq⟩ : ∃ q, q = b / 8 := ⟨_, rfl⟩
      obtain ⟨j, hj⟩ : ∃ j, j = b % 8 := ⟨_, rfl⟩
      obtain ⟨o1, o2, o3⟩ := leB_or hNlt (m := m) (by omega)
      rw [← hq] at o1 o2 o3
      rw [← hj] at o2 o3
      have hj8 : j < 8 := by omega
      have hqm : q < m := by omega
      have hp : 2 ^ j ≤ 128 := Nat.le_trans (Nat.pow_le_pow_right (by decide) (show j ≤ 7 by omega)) (by decide)
      obtain ⟨v, hv⟩ : ∃ v, v = N / 256 ^ q := ⟨_, rfl⟩
      rw [← hv] at o1 o2 o3
      obtain ⟨gl, lc, hvl, hgl, hgll, _, _, hlcells, _⟩ := Row.form hrl (by omega)
      simp only [Value.slice.injEq] at hvl
      obtain ⟨rfl, _, rfl⟩ := hvl
      have hcl : wr.cell? ⟨gl, k, none⟩ = some (.int .i64 ((b : Int) + 1)) := (hlcells k (by omega)).trans (by rw [intsV, List.getElem?_map, hz]; rfl)
      obtain ⟨g', cap', hvr, _, hglt, _, _, hcells, hfrz⟩ := Row.form hrow hm0
      simp only [Value.slice.injEq, Option.some.injEq, Addr.mk.injEq, and_true, true_and] at hvr
      obtain ⟨rfl, rfl⟩ := hvr
      have hcg : wr.cell? ⟨g, q, none⟩ = some (.int .u8 (v : Int)) := (hcells q (by omega)).trans (by rw [List.getElem?_map, o1]; exact congrArg some (byteV_lt (by omega)))
      have hfg := hfrz q (by omega)
      have hvp : v ||| 2 ^ j < 256 := Nat.lt_of_lt_of_le (Nat.or_lt_two_pow (n := 8) (by omega) (by omega)) (by decide)
      have hor : bits .or .u8 (v : Int) ((2 ^ j : Nat) : Int) = ((v ||| 2 ^ j : Nat) : Int) := u8_or_nat v (2 ^ j) (by omega) (by omega)
      obtain ⟨P, hP⟩ : ∃ P, P = 2 ^ j := ⟨_, rfl⟩
      have hshl : IntKind.u8.wrap ((2 : Int) ^ j) = (P : Int) := by
        rw [show ((2 : Int) ^ j) = ((2 ^ j : Nat) : Int) from by simp, ← hP]
        exact IntWalk.u8_in _ (by omega)
      have hshl1 : IntKind.u8.wrap (1 * (2 : Int) ^ j) = (P : Int) := by rw [Int.one_mul]; exact hshl
      rw [← hP] at hor hvp
      obtain ⟨hst, hgr⟩ := Row.stored hrow q (.int .u8 (bits .or .u8 (v : Int) (P : Int)))
      have hub : (Value.int .u8 (bits .or .u8 (v : Int) (P : Int))) = byteV (toU8 (v ||| 2 ^ j)) := by
        rw [hor, byteV_lt (by rw [← hP]; exact hvp), hP]
      have HREL := Lib.hid (show RByRel W x l g m (some ⟨gl, 0, none⟩) lcap (.int .i64 ((k : Int) + 1)) (wr.setCell ⟨g, q, none⟩ (.int .u8 (bits .or .u8 (v : Int) (P : Int)))) from
        ⟨k + 1, by simp, by omega, by
          rw [hNs, ← o3, List.map_set, ← hub]; exact hst, Row.kept hrl hgr (.inr (by simp [Value.ownBlock]; omega)), hbel.setCell (by have := HGT.out; simp only; omega) _⟩)
      have q1 : (b : Int).tdiv 8 = (q : Int) := by rw [Int.tdiv_eq_ediv_of_nonneg (by omega)]; omega
      have q2 : (b : Int) / 8 = (q : Int) := by omega
      have j1 : (b : Int).tmod 8 = (j : Int) := by rw [Int.tmod_eq_emod_of_nonneg (by omega)]; omega
      have j2 : (b : Int) % 8 = (j : Int) := by omega
      have hbw : IntKind.i64.wrap ((b : Int) + 1 - 1) = (b : Int) := by rw [Int.add_sub_cancel]; exact IntWalk.i64_in _ (by omega)
      have hju : IntKind.u64.wrap (j : Int) = (j : Int) := IntWalk.u64_in _ (by omega)
      have hkw : IntKind.i64.wrap ((k : Int) + 1) = (k : Int) + 1 := IntWalk.i64_in _ (by omega)
      clear hrow hrl hbel hst hgr hub hor hvp hP hcells hfrz hlcells hq hj hv hN hNlt hNs o1 o2 o3 hz t1 t2 t3 hp
      go_wp2_with fail
      case roundEnd =>
        refine ⟨HREL.out, ?_⟩
        clear HREL
        simp only [intOf]
        omega
    · obtain rfl : k = l.length := by omega
      rw [List.take_of_length_le (Nat.le_refl _), HALL.out] at hrow
      have HB := Lib.hid hbel
      clear hbel hrl
      go_wp2_with (with_reducible show wpList _ _ _ (⟨some 56, _, _, _, _, _⟩ :: _) _ _; refine wpList_string_row rfl (.tmp 55) 40 9 5 rfl Try.underlying40 Try.underlying5 Try.underlying9 _ hrow rfl ?_)
      go_ret2
      exact ⟨rfl, HB.out⟩

end Go.Proofs.Ytbcgfojdlehnpaa
