/- Contract of the reference's Below: none above a width. -/
import Derived.Test.YtbcgfojdlehnpaaHdRB
set_option linter.unusedSimpArgs false
set_option linter.unusedVariables false
namespace Go.Proofs.Ytbcgfojdlehnpaa
open Go.RowKit Go.ChangeShapes Go.WideShapes

theorem bit_test {x : Bt} (hx : x.ok) {m : Nat} (h1 : 1 ≤ m) (h2 : m ≤ 256) : x.bit m = 1 ↔ x.num.testBit (m - 1) = true := by
  rw [num_bit hx (by omega), Nat.testBit_eq_decide_div_mod_eq, decide_eq_true_eq]
  rfl
theorem upto_mem (x : Bt) (m : Nat) : ∀ k, m ∈ x.upto k ↔ 1 ≤ m ∧ m ≤ k ∧ x.bit m = 1
  | 0 => by simp [Bt.upto]; omega
  | k + 1 => by
    rw [Bt.upto]
    split
    · rename_i h
      rw [List.mem_append, upto_mem x m k, List.mem_singleton]
      constructor
      · rintro (⟨a, b, c⟩ | rfl)
        · exact ⟨a, by omega, c⟩
        · exact ⟨by omega, by omega, h⟩
      · rintro ⟨a, b, c⟩
        by_cases e : m = k + 1
        · exact .inr e
        · exact .inl ⟨a, by omega, c⟩
    · rename_i h
      rw [upto_mem x m k]
      constructor
      · rintro ⟨a, b, c⟩; exact ⟨a, by omega, c⟩
      · rintro ⟨a, b, c⟩
        refine ⟨a, ?_, c⟩
        by_cases e : m = k + 1
        · rw [e] at c; exact absurd c h
        · omega
theorem upto_last (x : Bt) : ∀ k, x.upto k = [] ∨ ∃ pre z, x.upto k = pre ++ [z] ∧ (∀ m ∈ x.upto k, m ≤ z) ∧ z ≤ k
  | 0 => .inl rfl
  | k + 1 => by
    rw [Bt.upto]
    split
    · refine .inr ⟨x.upto k, k + 1, rfl, fun m hm => ?_, Nat.le_refl _⟩
      rcases List.mem_append.1 hm with h | h
      · exact Nat.le_succ_of_le ((upto_mem x m k).1 h).2.1
      · rw [List.mem_singleton] at h; omega
    · rcases upto_last x k with h | ⟨pre, z, h1, h2, h3⟩
      · exact .inl h
      · exact .inr ⟨pre, z, h1, h2, by omega⟩
theorem below_upto {x : Bt} (hx : x.ok) {w : Nat} (hw : w ≤ 256) : x.num < 2 ^ w ↔ ∀ m ∈ x.upto 256, m ≤ w := by
  constructor
  · intro h m hm
    obtain ⟨h1, h2, h3⟩ := (upto_mem x m 256).1 hm
    have h4 := (bit_test hx h1 h2).1 h3
    by_cases hmw : m ≤ w
    · exact hmw
    · have h5 := Nat.testBit_lt_two_pow (Nat.lt_of_lt_of_le h (Nat.pow_le_pow_right (by decide) (show w ≤ m - 1 by omega)))
      rw [h5] at h4; cases h4
  · intro h
    apply num_lt_of_bits hx
    intro i hi h256
    by_cases hb : x.num.testBit i = true
    · have := h (i + 1) ((upto_mem x (i + 1) 256).2 ⟨by omega, by omega, (bit_test hx (by omega) (by omega)).2 (by simpa using hb)⟩)
      omega
    · simpa using hb
set_option maxRecDepth 100000 in
set_option maxHeartbeats 3200000 in
theorem rbelow_any (x : Bt) (n : Int) (W : World) (hx : x.ok) (hn : I64 n) : Calls Try.prog 40 #[x.ag, .int .i64 n] W fun e W' => e = .returned (.bool (below x n)) ∧ Below W.heap.size W W' := by
  obtain ⟨W1, hW1⟩ : ∃ W1, W1 = W.alloc (.cells x.cs 25) := ⟨_, rfl⟩
  have hb1 : Below W.heap.size W W1 := by rw [hW1]; exact (Below.refl _ _).alloc (Nat.le_refl _) _
  have hbx : BoxBt W.heap.size x W1 := by rw [hW1]; exact heap_alloc_new _ _
  obtain ⟨x0, x1, x2, x3⟩ := hbx.cells
  have HB1 := Lib.hid hb1
  have HL := Lib.hid (list1_any x W1 hx)
  have HLA := Lib.hid (upto_last x 256)
  have HBU := Lib.hid (fun w hw => below_upto hx (w := w) hw)
  have hll := Bt.upto_len x 256
  unfold Bt.cs at hW1
  have HW1 := Lib.hid hW1
  clear hW1 hb1 hbx
  go_enter Try.func40, Try.ntmps40
  unfold Bt.ag Bt.cs at *
  go_wp2_with fail
  rw [← HW1.out]
  refine HL.out.mono ?_
  rintro e V ⟨v, rfl, hr, hb⟩
  have HB := Lib.hid (HB1.out.trans (hb.mono HB1.out.size))
  obtain ⟨l, hl⟩ : ∃ l, l = x.upto 256 := ⟨_, rfl⟩
  rw [← hl] at hr hll HLA HBU
  clear hb x0 x1 x2 x3 hl
  by_cases h0 : 0 ≤ n
  · have d0 : decide (0 ≤ n) = true := decide_eq_true h0
    by_cases h1 : n ≤ 256
    · have d1 : decide (n ≤ 256) = true := decide_eq_true h1
      obtain ⟨w, rfl⟩ : ∃ w : Nat, n = w := ⟨n.toNat, by omega⟩
      have hbw := HBU.out w (by omega)
      rcases HLA.out with h | ⟨pre, z, h2, h3, h4⟩
      · have HE := Lib.hid (show below x (w : Int) = true from decide_eq_true ⟨by omega, by omega, by rw [Int.toNat_natCast, hbw, h]; simp⟩)
        subst h
        obtain ⟨a, cap, rfl, _, _⟩ := hr.shape
        clear hr hbw
        go_wp2_with fail
        go_returns
        exact ⟨by rw [HE.out]; rfl, HB.out⟩
      · have HE := Lib.hid (show below x (w : Int) = decide (z ≤ w) by
          unfold below
          apply Bool.eq_iff_iff.2
          rw [decide_eq_true_eq, decide_eq_true_eq, Int.toNat_natCast]
          constructor
          · rintro ⟨_, _, h⟩
            exact hbw.1 h z (by rw [h2]; simp)
          · intro h
            exact ⟨by omega, by omega, hbw.2 (fun m hm => by have := h3 m hm; omega)⟩)
        obtain ⟨k, hk⟩ : ∃ k, l.length = k + 1 := ⟨pre.length, by rw [h2, List.length_append]; rfl⟩
        have hz : (intsV l)[k]? = some (.int .i64 z) := by
          have hpk : pre.length = k := by rw [h2, List.length_append] at hk; simpa using hk
          rw [intsV, h2, List.map_append, List.getElem?_append_right (by simp; omega)]
          simp [hpk]
        rw [hk] at hr
        obtain ⟨g, cap, rfl, _, hglt, hcap, hcm, hcells, hfrz⟩ := Row.form hr (by omega)
        have hc0 := (hcells k (by omega)).trans hz
        have hk256 : k < 256 := by omega
        have hkw : IntKind.i64.wrap ((k : Int) + 1 - 1) = (k : Int) := by rw [Int.add_sub_cancel]; exact IntWalk.i64_in _ (by omega)
        have hnz : ((k : Int) + 1 == 0) = false := by rw [beq_eq_false_iff_ne]; omega
        clear hr hbw hz hcells hfrz h3 h2 hk
        go_wp2_with fail
        go_returns
        exact ⟨by rw [HE.out]; rfl, HB.out⟩
    · have d1 : decide (n ≤ 256) = false := decide_eq_false h1
      have HE := Lib.hid (show below x n = false from decide_eq_false (fun h => h1 h.2.1))
      obtain ⟨a, cap, rfl, _, _⟩ := hr.shape
      clear hr
      go_wp2_with fail
      go_returns
      exact ⟨by rw [HE.out]; rfl, HB.out⟩
  · have d0 : decide (0 ≤ n) = false := decide_eq_false h0
    have HE := Lib.hid (show below x n = false from decide_eq_false (fun h => h0 h.1))
    obtain ⟨a, cap, rfl, _, _⟩ := hr.shape
    clear hr
    go_wp2_with fail
    go_returns
    exact ⟨by rw [HE.out]; rfl, HB.out⟩

end Go.Proofs.Ytbcgfojdlehnpaa
