/- The walk of the law WireBursts. -/
import Derived.Test.YtibicjcnfdhffaaBurst
import Derived.Test.YtibicjcnfdhffaaWireOpen
import Derived.Test.YtibicjcnfdhffaaWireSeal
import Derived.Test.YtibicjcnfdhffaaWireWorks
set_option linter.unusedSimpArgs false
set_option linter.unusedVariables false
namespace Go.Proofs.Ytibicjcnfdhffaa
open Go.RowKit

theorem modulo_at (k : Int) (n : Nat) (hn : 0 < n) : ∃ (r : Int) (a : Nat), k.tmod (8 * (n : Int)) = r ∧ -(8 * (n : Int)) < r ∧ r < 8 * (n : Int) ∧ (r + 8 * (n : Int)).tmod (8 * (n : Int)) = (a : Int) ∧ (r + 8 * (n : Int)) % (8 * (n : Int)) = (a : Int) ∧ a < 8 * n := by
  have hp : (0 : Int) < 8 * (n : Int) := by omega
  have h1 := Int.tmod_lt_of_pos k hp
  have h2 := Int.tmod_lt_of_pos (-k) hp
  rw [Int.neg_tmod] at h2
  have h3 := Int.emod_nonneg (k.tmod (8 * (n : Int)) + 8 * (n : Int)) (show (8 * (n : Int)) ≠ 0 by omega)
  have h4 := Int.emod_lt_of_pos (k.tmod (8 * (n : Int)) + 8 * (n : Int)) hp
  refine ⟨_, ((k.tmod (8 * (n : Int)) + 8 * (n : Int)) % (8 * (n : Int))).toNat, rfl, by omega, h1, ?_, ?_, ?_⟩
  · rw [Int.tmod_eq_emod_of_nonneg (by omega)]; omega
  · omega
  · omega

theorem and_one (u j : Nat) (hu : u < 65536) : bits .and .u16 ((u : Int) / 2 ^ j) 1 = ((u / 2 ^ j % 2 : Nat) : Int) := by
  have h2 : (u : Int) / 2 ^ j = ((u / 2 ^ j : Nat) : Int) := by simp
  have h3 : u / 2 ^ j ≤ u := Nat.div_le_self _ _
  rw [h2, show (1 : Int) = ((1 : Nat) : Int) from rfl, u16_and_nat _ _ (by omega) (by decide), Nat.and_one_is_mod]
theorem xor_bit (x : UInt8) (m : Nat) (hm : m < 8) : bits .xor .u8 (x.toNat : Int) (128 / 2 ^ m) = (((x ^^^ bitAt m).toNat : Nat) : Int) := by
  have hx := x.toNat_lt
  have h1 : (128 : Int) / 2 ^ m = ((128 / 2 ^ m : Nat) : Int) := by simp
  have h2 : 128 / 2 ^ m ≤ 128 := Nat.div_le_self _ _
  have h3 : (bitAt m).toNat = 128 / 2 ^ m := by rw [bitAt, toU8_toNat]; exact Nat.mod_eq_of_lt (by omega)
  rw [h1, u8_xor_nat _ _ (by omega) (by omega), UInt8.toNat_xor, h3]

set_option maxHeartbeats 1600000 in
set_option maxRecDepth 100000 in
theorem wireBursts_walk (b : ByteArray) (k t : Int) (w : World) (hb : b.size ≤ 140737488351232) (hk : -9223372036854775808 ≤ k ∧ k ≤ 9223372036854775807) (ht : 0 ≤ t ∧ t ≤ 65535) :
    Calls Try.prog 7 #[.string b, .int .i64 k, .int .u16 t] w fun e w' => e = .returned (.bool true) ∧ Below w.heap.size w w' := by
  obtain ⟨u, rfl⟩ := Int.eq_ofNat_of_zero_le ht.1
  have hsz := sealB_size b
  obtain ⟨n, hn⟩ : ∃ n, n = b.size + 2 := ⟨_, rfl⟩
  rw [← hn] at hsz
  obtain ⟨r, a, hr, hr1, hr2, ha1, ha2, ha⟩ := modulo_at k n (by omega)
  have hst := Lib.hid (burst_start b a u)
  rw [← hn] at hst
  have hn2 : 2 ≤ n ∧ n ≤ 140737488351234 := by omega
  obtain ⟨hn3, hn4⟩ := hn2
  have hd1 : decide (2 ≤ (n : Int)) = true := by rw [decide_eq_true_eq]; omega
  have hd2 : decide ((n : Int) < 2) = false := by rw [decide_eq_false_iff_not]; omega
  have HN := Lib.hid hn
  have hseal := Lib.hid (open_seal b)
  clear hn
  go_enter Try.func7, Try.ntmps7
  go_wp2_with fail
  refine (works_any _).mono ?_
  rintro e w1 ⟨rfl, b1⟩
  go_wp2_with fail
  refine (seal_any b _ (by omega)).mono ?_
  rintro e w2 ⟨rfl, b2⟩
  have hB := b1.trans (b2.mono b1.size)
  clear b1 b2
  by_cases hu : (u : Int) = 0
  · go_wp2_with fail
    go_ret
    exact ⟨rfl, hB⟩
  · have hu2 : ((u : Int) == 0) = false := by rw [beq_eq_false_iff_ne]; exact hu
    have hs2 := hB.size
    go_wp2_with (with_reducible show wpList _ _ _ (⟨some 41, _, _, _, _, _⟩ :: _) _ _; refine wpList_bytes_row rfl (.tmp 40) 9 38 5 rfl Try.underlying9 Try.underlying38 Try.underlying5 (sealB b) rfl w.heap.size hs2 (by unfold maxLen; omega) ?_; intro v1 w3 hrow b3)
    rw [hsz] at hrow
    obtain ⟨g, cap, rfl, hg, hg2, hcap, hcap2, hc, hf⟩ := hrow.form (by omega)
    replace hB := hB.trans (b3.mono hs2)
    clear b3 hg2 hc hf
    go_wp2_with fail
    clear hr1 hr2 ha1 ha2 hr
    go_loopw [9, 10] (fun x i wr => ∃ (j : Nat) (l : List UInt8) (B : Bool), j ≤ 16 ∧ i = .int .i64 j ∧ x = .bool B ∧ Row wr w.heap.size 5 1 (.slice (some ⟨g, 0, none⟩) n cap) n (l.map byteV) ∧ Below w.heap.size w wr ∧ Hid (B = decide (turned u j ≠ 0)) ∧ Hid (Burst n a u j l (sealB b).data.toList)) (fun _ i _ => 16 - (intOf i).toNat)
    case atStart => exact ⟨0, _, false, Nat.zero_le _, rfl, rfl, hrow, hB, rfl, hst⟩
    case round =>
      obtain ⟨j, l, B, hj, rfl, rfl, hrw, hbw, hBt, hBu⟩ := hrel
      have hsw := hbw.size
      by_cases hin : j < 16 ∧ a + j < 8 * n
      · obtain ⟨hj16, hlt⟩ := hin
        have hlt2 : decide ((a : Int) + (j : Int) < 8 * (n : Int)) = true := by rw [decide_eq_true_eq]; omega
        have hand := and_one u j (by omega)
        have hlen : l.length = n := by simpa using hrw.1
        by_cases hbit : u / 2 ^ j % 2 = 1
        · rw [hbit] at hand
          have HT := Lib.hid (burst_turn hBu.out hj16 (by omega) hbit)
          have HD := Lib.hid (turned_ne hj16 hbit)
          obtain ⟨q, hq⟩ : ∃ q, q = (a + j) / 8 := ⟨_, rfl⟩
          obtain ⟨m, hm⟩ : ∃ m, m = (a + j) % 8 := ⟨_, rfl⟩
          have hqn : q < n := by omega
          have hqi : ((a : Int) + (j : Int)) / 8 = (q : Int) := by omega
          have hmi : ((a : Int) + (j : Int)) % 8 = (m : Int) := by omega
          have hq1 : (0 : Int) ≤ (q : Int) := by omega
          have hq2 : (q : Int) < (n : Int) := by omega
          have hm8 : m < 8 := by omega
          obtain ⟨x, hx⟩ : ∃ x, x = l.getD q 0 := ⟨_, rfl⟩
          have hget : (l.map byteV)[q]? = some (.int .u8 (x.toNat : Int)) := by
            rw [List.getElem?_map, List.getElem?_eq_getElem (by omega), hx, List.getD_eq_getElem?_getD, List.getElem?_eq_getElem (by omega)]
            rfl
          obtain ⟨_, _, hv, _, _, _, _, hcell, hfro⟩ := hrw.form (by omega)
          obtain ⟨rfl, rfl⟩ : g = _ ∧ cap = _ := by simpa using hv
          have hc1 : wr.cell? ⟨g, q, none⟩ = some (.int .u8 (x.toNat : Int)) := by rw [hcell q (by omega), hget]
          have hf1 : wr.frozen? ⟨g, q, none⟩ = false := hfro q (by omega)
          have hxor := xor_bit x m hm8
          have hadd : (⟨g, 0, none⟩ : Addr).add q = ⟨g, q, none⟩ := by unfold Addr.add; split <;> simp_all
          have HQ := Lib.hid hq
          have HM := Lib.hid hm
          have HX := Lib.hid hx
          have HB := Lib.hid hbit
          clear hv hcell hfro hget hq hm hx hbit
          go_wp2_with fail
          refine wp_region_ord [(0, true), (1, true), (2, true), (3, true), (4, true), (5, true), (7, true), (8, true), (9, true), (10, true), (11, true), (6, false), (12, true), (13, true), (14, false)] (fun _ => True) (by kernel_rfl) (by kernel_rfl) (by decide) (by kernel_rfl) (fun d _ _ _ _ h => by cases d <;> exact h) trivial ?_
          iterate 11 (apply wpOrd_look rfl (by kernel_rfl); (intro W hS; go_simp; (try go_bits); (try simp only [hqi, hmi]); rfl); (try simp only [Act.put, List.setIfInBounds_toArray, List.set_cons_succ, List.set_cons_zero]))
          apply wpOrd_do rfl (by kernel_rfl)
          intro K hK
          go_simp
          refine hK _ _ trivial ?_
          clear hK K
          apply wpOrd_look rfl (by kernel_rfl)
          · intro W hS; go_simp; (try simp only [hxor]); rfl
          (try simp only [Act.put, List.setIfInBounds_toArray, List.set_cons_succ, List.set_cons_zero])
          apply wpOrd_look rfl (by kernel_rfl)
          · intro W hS; go_simp; rfl
          (try simp only [Act.put, List.setIfInBounds_toArray, List.set_cons_succ, List.set_cons_zero])
          apply wpOrd_do rfl (by kernel_rfl)
          intro K hK
          go_simp
          refine hK _ _ trivial ?_
          clear hK K
          refine wpOrd_nil ?_
          have hst2 := hrw.stored q (.int .u8 ((x ^^^ bitAt m).toNat : Int))
          have hrow2 := hst2.1.drew
          have hset : (l.map byteV).set q (.int .u8 ((x ^^^ bitAt m).toNat : Int)) = (flip l (a + j)).map byteV := by
            unfold flip
            rw [← HQ.out, ← HM.out, ← HX.out, List.map_set]
            rfl
          rw [hset] at hrow2
          have hbw2 := (hbw.setCell (p := ⟨g, q, none⟩) hg (.int .u8 ((x ^^^ bitAt m).toNat : Int))).drew
          simp only [UInt8.toNat_xor] at hrow2 hbw2
          clear hst2 hset hrw hbw hc1 hf1 hxor hadd
          go_wp2_with fail
          go_roundw
          case rel => exact ⟨j + 1, _, true, by omega, by go_num, rfl, hrow2, hbw2, by show true = _; exact (decide_eq_true HD.out).symm, HT.out⟩
          case measure => simp [intOf]; omega
        · have h0 : u / 2 ^ j % 2 = 0 := by omega
          rw [h0] at hand
          have HS := Lib.hid (burst_skip hBu.out hbit)
          have HD := Lib.hid (turned_same hbit)
          clear hbit h0
          go_wp2_with fail
          go_roundw
          case rel => exact ⟨j + 1, l, B, by omega, by go_num, rfl, hrw, hbw, by show B = _; rw [HD.out]; exact hBt.out, HS.out⟩
          case measure => simp [intOf]; omega
      · have hcv := run_string_row (P := Try.prog) 38 9 Try.underlying38 Try.underlying5 Try.underlying9 hrw
        have hlen : l.length = n := by simpa using hrw.1
        have hop : (bs l).size ≤ 1125899906842624 := by rw [bs_size]; omega
        by_cases hz : turned u j = 0
        · have hBf : B = false := by rw [hBt.out, hz]; rfl
          subst hBf
          have HC := Lib.hid (burst_none hBu.out hz)
          by_cases h16 : j < 16
          · have hlt2 : decide ((a : Int) + (j : Int) < 8 * (n : Int)) = false := by rw [decide_eq_false_iff_not]; omega
            go_wp2_with fail
            refine (open_any (bs l) _ hop).mono ?_
            rw [HC.out.1, HC.out.2]
            rintro e w4 ⟨rfl, b4⟩
            go_wp2_with fail
            go_ret
            exact ⟨rfl, hbw.trans (b4.mono hsw)⟩
          · go_wp2_with fail
            refine (open_any (bs l) _ hop).mono ?_
            rw [HC.out.1, HC.out.2]
            rintro e w4 ⟨rfl, b4⟩
            go_wp2_with fail
            go_ret
            exact ⟨rfl, hbw.trans (b4.mono hsw)⟩
        · have hBf : B = true := by rw [hBt.out]; simpa using hz
          subst hBf
          have HC := Lib.hid (burst_found HN.out hBu.out hz)
          by_cases h16 : j < 16
          · have hlt2 : decide ((a : Int) + (j : Int) < 8 * (n : Int)) = false := by rw [decide_eq_false_iff_not]; omega
            go_wp2_with fail
            refine (open_any (bs l) _ hop).mono ?_
            rw [HC.out.1, HC.out.2]
            rintro e w4 ⟨rfl, b4⟩
            go_wp2_with fail
            go_ret
            exact ⟨rfl, hbw.trans (b4.mono hsw)⟩
          · go_wp2_with fail
            refine (open_any (bs l) _ hop).mono ?_
            rw [HC.out.1, HC.out.2]
            rintro e w4 ⟨rfl, b4⟩
            go_wp2_with fail
            go_ret
            exact ⟨rfl, hbw.trans (b4.mono hsw)⟩

end Go.Proofs.Ytibicjcnfdhffaa
