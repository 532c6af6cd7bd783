/- Contracts of the reference's Read and number. -/
import Derived.Test.YtbcgfojdlehnpaaHdRJ
import Derived.Test.YtbcgfojdlehnpaaHdJ
import Derived.Test.YtbcgfojdlehnpaaRegion
set_option linter.unusedSimpArgs false
set_option linter.unusedVariables false
namespace Go.Proofs.Ytbcgfojdlehnpaa
open Go.RowKit Go.ChangeShapes Go.WideShapes

def RReRel (W : World) (l : List UInt8) (i : Value) (wr : World) : Prop :=
  ∃ k : Nat, i = .int .i64 k ∧ k ≤ 8 * l.length ∧ BoxBt (W.heap.size + 1) (Bt.of (leVal l % 2 ^ k)) wr ∧ BoxBt W.heap.size Bt.zero wr ∧ Below W.heap.size W wr
set_option maxRecDepth 100000 in
set_option maxHeartbeats 3200000 in
theorem rbread_any (s : ByteArray) (W : World) (h0 : 0 < s.size) (h32 : s.size ≤ 32) :
    Calls Try.prog 33 #[.string s] W fun e W' => e = .returned (.tuple #[(Bt.of (leVal s.data.toList)).ag, .int .i64 0]) ∧ Below W.heap.size W W' := by
  obtain ⟨W1, hW1⟩ : ∃ W1, W1 = (W.alloc (.cells #[.int .u64 0, .int .u64 0, .int .u64 0, .int .u64 0] 25)).alloc (.cells #[.int .u64 0, .int .u64 0, .int .u64 0, .int .u64 0] 25) := ⟨_, rfl⟩
  have hb1 : Below W.heap.size W W1 := by rw [hW1]; exact ((Below.refl _ _).alloc (Nat.le_refl _) _).alloc (by rw [World.size_alloc]; omega) _
  have hlen : s.data.toList.length = s.size := size_eq s
  have H0 := Lib.hid (show RReRel W s.data.toList (.int .i64 0) W1 from ⟨0, rfl, Nat.zero_le _, by rw [Nat.pow_zero, Nat.mod_one, show Bt.of 0 = Bt.zero from by decide +kernel, hW1]; exact heap_alloc2_new _ _ _, by rw [hW1]; exact heap_alloc2_old _ _ _, hb1⟩)
  have HW1 := Lib.hid hW1
  have HLEN := Lib.hid hlen
  have hd1 : decide ((s.size : Int) < 1) = false := decide_eq_false (by omega)
  have hd : decide (32 < (s.size : Int)) = false := decide_eq_false (by omega)
  have hm8 : IntKind.i64.wrap (8 * (s.size : Int)) = 8 * (s.size : Int) := IntWalk.i64_in _ (by omega)
  clear hW1 hb1 hlen
  go_enter Try.func33, Try.ntmps33
  go_wp2_with fail
  rw [← HW1.out]
  go_loopw [5] (fun i wr => RReRel W s.data.toList i wr) (fun i _ => 300 - (intOf i).toNat)
  case atStart => exact H0.out
  case round =>
    obtain ⟨k, rfl, hk, hbx, hbz, hbel⟩ := hrel
    rw [HLEN.out] at hk
    by_cases hlt : k < 8 * s.size
    · have hd2 : decide ((k : Int) < 8 * (s.size : Int)) = true := decide_eq_true (by omega)
      obtain ⟨q, hq⟩ : ∃ q, q = k / 8 := ⟨_, rfl⟩
      obtain ⟨j, hj⟩ : ∃ j, j = k % 8 := ⟨_, rfl⟩
      have q1 : (k : Int).tdiv 8 = (q : Int) := by rw [Int.tdiv_eq_ediv_of_nonneg (by omega)]; omega
      have q2 : (k : Int) / 8 = (q : Int) := by omega
      have j1 : (k : Int).tmod 8 = (j : Int) := by rw [Int.tmod_eq_emod_of_nonneg (by omega)]; omega
      have j2 : (k : Int) % 8 = (j : Int) := by omega
      have hqs : q < s.size := by omega
      have hqsi : (q : Int) < (s.size : Int) := by omega
      have hql : q < s.data.toList.length := by rw [HLEN.out]; exact hqs
      have hse : s.data.toList[q] = s[q] := rfl
      have hbit : s[q].toNat / 2 ^ j % 2 = leVal s.data.toList / 2 ^ k % 2 := by
        have := bit_of_bytes (l := s.data.toList) (i := k) (by rw [← hq]; exact hql)
        simp only [← hq, ← hj] at this
        rw [hse] at this
        exact this
      have hrun := bit_run8 s[q] j
      have hju : IntKind.u64.wrap (j : Int) = (j : Int) := IntWalk.u64_in _ (by omega)
      have hkw : IntKind.i64.wrap ((k : Int) + 1) = (k : Int) + 1 := IntWalk.i64_in _ (by omega)
      have hstep : leVal s.data.toList % 2 ^ (k + 1) = leVal s.data.toList % 2 ^ k + 2 ^ k * (leVal s.data.toList / 2 ^ k % 2) := by rw [Nat.pow_succ, Nat.mod_mul]
      by_cases hb : leVal s.data.toList / 2 ^ k % 2 = 1
      · have ht : (bits BinOp.and IntKind.u8 ((s[q].toNat : Int) / 2 ^ j) 1 == 1) = true := by rw [hrun, hbit, hb]; rfl
        obtain ⟨x, hx⟩ : ∃ x, x = Bt.of (leVal s.data.toList % 2 ^ k) := ⟨_, rfl⟩
        have hxo : x.ok := hx ▸ Bt.of_ok _
        rw [← hx] at hbx
        have hpx : putB x k = Bt.of (leVal s.data.toList % 2 ^ (k + 1)) := by
          rw [hx, putB_of (by omega) (Nat.mod_lt _ (Nat.pow_pos (by decide))), hstep, hb, Nat.mul_one]
        have hput := rbput_any x k wr hxo (by omega)
        rw [hpx] at hput
        obtain ⟨y, hy⟩ : ∃ y, y = Bt.of (leVal s.data.toList % 2 ^ (k + 1)) := ⟨_, rfl⟩
        rw [← hy] at hput
        unfold Bt.ag Bt.cs at hput
        have HPUT := Lib.hid hput
        have HY := Lib.hid hy
        have HBX := Lib.hid hbx
        have HBZ := Lib.hid hbz
        have HBE := Lib.hid hbel
        obtain ⟨x0, x1, x2, x3⟩ := hbx.cells
        clear hbx hbz hbel hput hy hpx hx hxo hstep hb hbit hrun hq hj
        go_wp2_with fail
        refine HPUT.out.mono ?_
        rintro e V ⟨rfl, hb⟩
        have hbx2 := HBX.out.later hb
        have hbz2 := HBZ.out.later hb
        have hbe2 := HBE.out.trans (hb.mono HBE.out.size)
        clear hb x0 x1 x2 x3
        obtain ⟨x0, x1, x2, x3⟩ := hbx2.cells
        have k0 : V.frozen? ⟨W.heap.size + 1, 0, none⟩ = false := frozen_of_row _ _ _ _ _ hbx2
        have k1 : V.frozen? ⟨W.heap.size + 1, 1, none⟩ = false := frozen_of_row _ _ _ _ _ hbx2
        have k2 : V.frozen? ⟨W.heap.size + 1, 2, none⟩ = false := frozen_of_row _ _ _ _ _ hbx2
        have k3 : V.frozen? ⟨W.heap.size + 1, 3, none⟩ = false := frozen_of_row _ _ _ _ _ hbx2
        obtain ⟨U, hU⟩ : ∃ U, U = (((V.setCell ⟨W.heap.size + 1, 0, none⟩ (.int .u64 (y.a : Int))).setCell ⟨W.heap.size + 1, 1, none⟩ (.int .u64 (y.b : Int))).setCell ⟨W.heap.size + 1, 2, none⟩ (.int .u64 (y.c : Int))).setCell ⟨W.heap.size + 1, 3, none⟩ (.int .u64 (y.d : Int)) := ⟨_, rfl⟩
        have HREL := Lib.hid (show RReRel W s.data.toList (.int .i64 ((k : Int) + 1)) U from ⟨k + 1, by simp, by rw [HLEN.out]; omega, by
          rw [← HY.out, hU]
          exact heap_setCell_same _ (W.heap.size + 1) 3 _ _ _ (heap_setCell_same _ (W.heap.size + 1) 2 _ _ _ (heap_setCell_same _ (W.heap.size + 1) 1 _ _ _ (heap_setCell_same _ (W.heap.size + 1) 0 _ _ _ hbx2))), by
          rw [hU]
          repeat (refine (heap_setCell_other _ _ _ _ (by simp only; omega)).trans ?_)
          exact hbz2, by
          rw [hU]
          repeat (with_reducible refine Below.setCell ?_ (by simp only; omega) _)
          exact hbe2⟩)
        have HU := Lib.hid hU
        clear hU hbx2 hbz2 hbe2
        go_wp2_with fail
        case roundEnd =>
          rw [← HU.out]
          refine ⟨HREL.out, ?_⟩
          clear HREL HU
          simp only [intOf]
          omega
      · have hb0 : leVal s.data.toList / 2 ^ k % 2 = 0 := by
          have := Nat.mod_lt (leVal s.data.toList / 2 ^ k) (show 0 < 2 by decide)
          omega
        have ht : (bits BinOp.and IntKind.u8 ((s[q].toNat : Int) / 2 ^ j) 1 == 1) = false := by rw [hrun, hbit, hb0]; rfl
        rw [hb0, Nat.mul_zero, Nat.add_zero] at hstep
        have HREL := Lib.hid (show RReRel W s.data.toList (.int .i64 ((k : Int) + 1)) wr from ⟨k + 1, by simp, by rw [HLEN.out]; omega, by rw [hstep]; exact hbx, hbz, hbel⟩)
        clear hbx hbz hbel hstep hb hbit hrun hq hj hb0
        go_wp2_with fail
        case roundEnd =>
          refine ⟨HREL.out, ?_⟩
          clear HREL
          simp only [intOf]
          omega
    · obtain rfl : k = 8 * s.size := by omega
      have hd2 : decide (((8 * s.size : Nat) : Int) < 8 * (s.size : Int)) = false := decide_eq_false (by omega)
      have hd3 : decide ((8 * (s.size : Int)) < 8 * (s.size : Int)) = false := decide_eq_false (by omega)
      rw [Nat.mod_eq_of_lt (show leVal s.data.toList < 2 ^ (8 * s.size) by rw [← pow256, ← HLEN.out]; exact leVal_lt _)] at hbx
      obtain ⟨x, hx⟩ : ∃ x, x = Bt.of (leVal s.data.toList) := ⟨_, rfl⟩
      rw [← hx] at hbx
      have HX := Lib.hid hx
      obtain ⟨x0, x1, x2, x3⟩ := hbx.cells
      obtain ⟨z0, z1, z2, z3⟩ := hbz.cells
      have k0 : wr.frozen? ⟨W.heap.size, 0, none⟩ = false := frozen_of_row _ _ _ _ _ hbz
      have k1 : wr.frozen? ⟨W.heap.size, 1, none⟩ = false := frozen_of_row _ _ _ _ _ hbz
      have k2 : wr.frozen? ⟨W.heap.size, 2, none⟩ = false := frozen_of_row _ _ _ _ _ hbz
      have k3 : wr.frozen? ⟨W.heap.size, 3, none⟩ = false := frozen_of_row _ _ _ _ _ hbz
      have HB := Lib.hid hbel
      clear hbel hbx hbz hx
      go_wp2_with fail
      refine bodyPost_ret (v := .tuple #[.agg #[.int .u64 x.a, .int .u64 x.b, .int .u64 x.c, .int .u64 x.d], .int .i64 0]) ?_ rfl ⟨by rw [← HX.out]; rfl, ?_⟩
      · simp only [results, Try.results33]
        go_simp
      · repeat (with_reducible refine Below.setCell ?_ (by simp only; omega) _)
        exact HB.out

theorem seg_one {s : ByteArray} {a : Nat} (h : a < s.size) : seg s.data.toList a 1 = s[a].toNat := by
  have hl : a < s.data.toList.length := by rw [size_eq]; exact h
  unfold seg
  rw [List.drop_eq_getElem_cons hl]
  show beVal [s.data.toList[a]] = s[a].toNat
  simp [beVal]
  rfl
theorem or_join {a b k : Nat} (ha : a % 2 ^ k = 0) (hb : b < 2 ^ k) : a ||| b = a + b := by
  obtain ⟨c, rfl⟩ : ∃ c, a = c * 2 ^ k := ⟨a / 2 ^ k, by have := Nat.div_add_mod a (2 ^ k); rw [ha] at this; rw [Nat.mul_comm]; omega⟩
  rw [← Nat.shiftLeft_eq, Nat.shiftLeft_add_eq_or_of_lt hb]
theorem num4_val (x0 x1 x2 x3 : UInt8) : x0.toNat * 16777216 + x1.toNat * 65536 + x2.toNat * 256 + x3.toNat = beVal [x0, x1, x2, x3] := by
  show _ = ((((0 * 256 + x0.toNat) * 256 + x1.toNat) * 256 + x2.toNat) * 256 + x3.toNat)
  omega
theorem list4 {l : List UInt8} (h : l.length = 4) (h0 : 0 < l.length) (h1 : 1 < l.length) (h2 : 2 < l.length) (h3 : 3 < l.length) : l = [l[0], l[1], l[2], l[3]] := by
  match l, h with
  | [a, b, c, d], _ => rfl
theorem num4_go (x0 x1 x2 x3 : UInt8) : bits .or .u32 (bits .or .u32 (bits .or .u32 (IntKind.u32.wrap (IntKind.u32.wrap (x0.toNat : Int) * 16777216)) (IntKind.u32.wrap (IntKind.u32.wrap (x1.toNat : Int) * 65536))) (IntKind.u32.wrap (IntKind.u32.wrap (x2.toNat : Int) * 256))) (IntKind.u32.wrap (x3.toNat : Int)) = ((beVal [x0, x1, x2, x3] : Nat) : Int) := by
  have h0 := x0.toNat_lt; have h1 := x1.toNat_lt; have h2 := x2.toNat_lt; have h3 := x3.toNat_lt
  rw [IntWalk.u32_in (x0.toNat : Int) (by omega), IntWalk.u32_in (x1.toNat : Int) (by omega), IntWalk.u32_in (x2.toNat : Int) (by omega), IntWalk.u32_in (x3.toNat : Int) (by omega), IntWalk.u32_in _ (by omega), IntWalk.u32_in _ (by omega), IntWalk.u32_in _ (by omega),
    show ((x0.toNat : Int) * 16777216) = ((x0.toNat * 16777216 : Nat) : Int) from by simp, show ((x1.toNat : Int) * 65536) = ((x1.toNat * 65536 : Nat) : Int) from by simp, show ((x2.toNat : Int) * 256) = ((x2.toNat * 256 : Nat) : Int) from by simp,
    u32_or_nat _ _ (by omega) (by omega), or_join (k := 24) (by omega) (by omega), u32_or_nat _ _ (by omega) (by omega), or_join (k := 16) (by omega) (by omega), u32_or_nat _ _ (by omega) (by omega), or_join (k := 8) (by omega) (by omega)]
  exact congrArg Nat.cast (num4_val x0 x1 x2 x3)
theorem number_any (s : ByteArray) (W : World) (hs : s.size = 4) : Calls Try.prog 32 #[.string s] W fun e W' => e = .returned (.int .u32 (beVal s.data.toList)) ∧ Below W.heap.size W W' := by
  have h0 : 0 < s.size := by omega
  have h1 : 1 < s.size := by omega
  have h2 : 2 < s.size := by omega
  have h3 : 3 < s.size := by omega
  have i0 : (0 : Int) < (s.size : Int) := by omega
  have i1 : (1 : Int) < (s.size : Int) := by omega
  have i2 : (2 : Int) < (s.size : Int) := by omega
  have i3 : (3 : Int) < (s.size : Int) := by omega
  have HG := Lib.hid (num4_go s[0] s[1] s[2] s[3])
  have HL := Lib.hid (show s.data.toList = [s[0], s[1], s[2], s[3]] by
    have hl : s.data.toList.length = 4 := by rw [size_eq]; exact hs
    exact list4 hl (by omega) (by omega) (by omega) (by omega))
  clear hs
  go_enter Try.func32, Try.ntmps32
  go_wp2_with fail
  refine wp_region_ord [(0, true), (1, true), (2, true), (3, true), (4, true), (5, true), (6, true), (7, true), (8, true), (9, true), (10, true), (11, true), (12, true), (13, true), (14, true), (15, true), (16, true), (17, true), (18, true)] (fun _ => True) (by kernel_rfl) (by kernel_rfl) (by decide) (by kernel_rfl) (fun d _ _ _ _ h => by cases d <;> exact h) trivial ?_
  iterate 19 ((apply wpOrd_take rfl rfl (by kernel_rfl); (intro V hV; go_simp; rfl)); (try simp only [List.setIfInBounds_toArray, List.set_cons_succ, List.set_cons_zero]))
  refine wpOrd_nil ?_
  go_wp2_with fail
  go_returns
  refine ⟨?_, (Below.refl _ _).drew⟩
  rw [HL.out, ← HG.out]
  rfl

end Go.Proofs.Ytbcgfojdlehnpaa
