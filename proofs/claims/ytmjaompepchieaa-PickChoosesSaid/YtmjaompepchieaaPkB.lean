/- Contracts of the two tests of neighbours; what lists of numbers in memory are. -/
import Derived.Test.YtmjaompepchieaaPkL
import Derived.BigQuiet
import Derived.IntWalk
set_option linter.unusedSimpArgs false
set_option linter.unusedVariables false
namespace Go.Proofs.Ytmjaompepchieaa
open Go.RowKit Go.ChangeShapes Go.WideShapes Go.Sort

def iv (n : Int) : Value := .int .i64 n
/-- The slice v reads as the numbers l; nil, where there are none, or a row somewhere. -/
def Lst (W : World) (v : Value) (l : List Int) : Prop :=
  (v = .slice none 0 0 ∧ l = []) ∨ ∃ g off cap, v = .slice (some ⟨g, off, none⟩) l.length cap ∧ l.length ≤ 1000 ∧ l.length ≤ cap ∧ cap ≤ maxLen ∧ g < W.heap.size ∧ ∀ j, j < l.length → W.cell? ⟨g, off + j, none⟩ = some (.int .i64 (l.getD j 0)) ∧ W.frozen? ⟨g, off + j, none⟩ = false
theorem Lst.nil_ (W : World) : Lst W (.slice none 0 0) [] := .inl ⟨rfl, rfl⟩
theorem Lst.shape {W : World} {v : Value} {l : List Int} (h : Lst W v l) : ∃ a cap, v = .slice a l.length cap ∧ l.length ≤ 1000 ∧ l.length ≤ cap ∧ cap ≤ maxLen := by
  rcases h with ⟨rfl, rfl⟩ | ⟨g, off, cap, rfl, h0, h1, h2, _⟩
  · exact ⟨none, 0, rfl, by simp, Nat.le_refl _, by simp [maxLen]⟩
  · exact ⟨_, cap, rfl, h0, h1, h2⟩
theorem Lst.form {W : World} {v : Value} {l : List Int} (h : Lst W v l) (h0 : 0 < l.length) : ∃ g off cap, v = .slice (some ⟨g, off, none⟩) l.length cap ∧ l.length ≤ 1000 ∧ l.length ≤ cap ∧ cap ≤ maxLen ∧ g < W.heap.size ∧ ∀ j, j < l.length → W.cell? ⟨g, off + j, none⟩ = some (.int .i64 (l.getD j 0)) ∧ W.frozen? ⟨g, off + j, none⟩ = false := by
  rcases h with ⟨_, rfl⟩ | h
  · simp at h0
  · exact h
theorem below_frozen {B : Nat} {W V : World} (hb : Below B W V) (a : Addr) (ha : a.block < B) : V.frozen? a = W.frozen? a := by
  simp only [World.frozen?, hb.block a.block ha]
theorem below_cell {B : Nat} {W V : World} (hb : Below B W V) (a : Addr) (ha : a.block < B) : V.cell? a = W.cell? a := by
  simp only [World.cell?, hb.block a.block ha]
theorem Lst.later {W V : World} {v : Value} {l : List Int} (h : Lst W v l) (hb : Below W.heap.size W V) : Lst V v l := by
  rcases h with h | ⟨g, off, cap, h0, hs, h1, h2, h3, h4⟩
  · exact .inl h
  · exact .inr ⟨g, off, cap, h0, hs, h1, h2, Nat.lt_of_lt_of_le h3 hb.size, fun j hj => ⟨(below_cell hb ⟨g, off + j, none⟩ h3).trans (h4 j hj).1, (below_frozen hb ⟨g, off + j, none⟩ h3).trans (h4 j hj).2⟩⟩

/-- Rising numbers above a last one, none above 24. -/
def nbs : Int → List Int → Bool
  | _, [] => true
  | last, n :: t => if n ≤ last ∨ 24 < n then false else nbs n t
theorem drop_at (l : List Int) {k : Nat} (h : k < l.length) : l.drop k = l.getD k 0 :: l.drop (k + 1) := by
  rw [List.drop_eq_getElem_cons h, List.getD_eq_getElem?_getD, List.getElem?_eq_getElem h]; rfl

def NbRel (l : List Int) (W : World) (last i : Value) (wr : World) : Prop := wr = W ∧ ∃ (k : Nat) (z : Int), i = .int .i64 k ∧ last = .int .i64 z ∧ k ≤ l.length ∧ nbs z (l.drop k) = nbs 0 l

set_option maxHeartbeats 800000 in
theorem nbs_any (l : List Int) (v : Value) (W : World) (h : Lst W v l) : Calls Try.prog 21 #[v] W fun x W' => x = .returned (.bool (nbs 0 l)) ∧ W = W' := by
  have HL := Lib.hid h
  obtain ⟨a, cap, rfl, hsm, hc1, hc2⟩ := h.shape
  clear h
  go_enter Try.func21, Try.ntmps21
  go_wp2_with fail
  go_loopw [3, 8] (fun last i wr => NbRel l W last i wr) (fun _ i _ => l.length - (intOf i).toNat)
  case atStart => exact ⟨rfl, 0, 0, rfl, rfl, Nat.zero_le _, rfl⟩
  case round =>
    obtain ⟨rfl, k, z, rfl, rfl, hk, hz⟩ := hrel
    by_cases hlt : k < l.length
    · obtain ⟨g, off, cap', he, _, _, _, _, hcells⟩ := HL.out.form (by omega)
      obtain ⟨ha, _, hcap⟩ : a = some ⟨g, off, none⟩ ∧ l.length = l.length ∧ cap = cap' := by simpa using he
      subst ha
      have hc := (hcells k hlt).1
      obtain ⟨n, hn⟩ : ∃ n, n = l.getD k 0 := ⟨_, rfl⟩
      have hd := drop_at l hlt
      rw [← hn] at hc hd
      rw [hd, nbs] at hz
      obtain ⟨len, hlen⟩ : ∃ len, len = l.length := ⟨_, rfl⟩
      rw [← hlen] at hlt hk hsm ⊢
      by_cases h1 : n ≤ z
      · have d1 : decide (n ≤ z) = true := decide_eq_true h1
        rw [if_pos (.inl h1)] at hz
        have HZ := Lib.hid hz
        clear hz hcells he hn hd h1
        go_wp2_with fail
        go_returns
        exact ⟨by rw [← HZ.out]; rfl, rfl⟩
      · have d1 : decide (n ≤ z) = false := decide_eq_false h1
        by_cases h2 : 24 < n
        · have d2 : decide (24 < n) = true := decide_eq_true h2
          rw [if_pos (.inr h2)] at hz
          have HZ := Lib.hid hz
          clear hz hcells he hn hd h1 h2
          go_wp2_with fail
          go_returns
          exact ⟨by rw [← HZ.out]; rfl, rfl⟩
        · have d2 : decide (24 < n) = false := decide_eq_false h2
          rw [if_neg (by rintro (h | h) <;> omega)] at hz
          have HREL := Lib.hid (show NbRel l wr (.int .i64 n) (.int .i64 ((k + 1 : Nat) : Int)) wr from ⟨rfl, k + 1, n, rfl, rfl, by omega, hz⟩)
          clear hz hcells he hn hd h1 h2
          go_wp2_with fail
          go_roundw
          case rel => first | exact HREL.out | exact ⟨_, _, _, HREL.out, rfl⟩ | ((repeat apply Exists.intro); exact ⟨HREL.out, rfl⟩)
          case measure => simp [intOf]; omega
    · obtain rfl : k = l.length := by omega
      rw [List.drop_length, nbs] at hz
      have HZ := Lib.hid hz
      clear hz
      go_wp2_with fail
      go_returns
      exact ⟨by rw [← HZ.out]; rfl, rfl⟩

def RnRel (l : List Int) (W : World) (i : Value) (wr : World) : Prop := (∃ q, wr = W.drewN q) ∧ ∃ (k : Nat) (z : Int), i = .int .i64 k ∧ k ≤ l.length ∧ 0 ≤ z ∧ (k = 0 → z = 0) ∧ (0 < k → z = l.getD (k - 1) 0) ∧ nbs z (l.drop k) = nbs 0 l
theorem Lst.drewN {W : World} {v : Value} {l : List Int} (h : Lst W v l) (q : Nat) : Lst (W.drewN q) v l := h

set_option maxHeartbeats 1600000 in
theorem rnbs_any (l : List Int) (v : Value) (W : World) (h : Lst W v l) : Calls Try.prog 24 #[v] W fun x W' => x = .returned (.bool (nbs 0 l)) ∧ ∃ q, W' = W.drewN q := by
  have HL := Lib.hid h
  obtain ⟨a, cap, rfl, hsm, hc1, hc2⟩ := h.shape
  clear h
  go_enter Try.func24, Try.ntmps24
  go_wp2_with fail
  go_loopw [3] (fun i wr => RnRel l W i wr) (fun i _ => l.length - (intOf i).toNat)
  case atStart => exact ⟨⟨0, rfl⟩, 0, 0, rfl, Nat.zero_le _, Int.le_refl _, fun _ => rfl, fun h => absurd h (by decide), rfl⟩
  case round =>
    obtain ⟨⟨q, hq⟩, k, z, rfl, hk, hz0, hk0, hk1, hz⟩ := hrel
    by_cases hlt : k < l.length
    · have HL2 := Lib.hid (show Lst wr (.slice a l.length cap) l by rw [hq]; exact HL.out.drewN q)
      obtain ⟨g, off, cap', he, _, _, _, _, hcells⟩ := HL2.out.form (by omega)
      obtain ⟨ha, _, hcap⟩ : a = some ⟨g, off, none⟩ ∧ l.length = l.length ∧ cap = cap' := by simpa using he
      subst ha
      subst hcap
      have hc := (hcells k hlt).1
      have hcp : 0 < k → wr.cell? ⟨g, off + (k - 1), none⟩ = some (.int .i64 z) := fun h => by rw [hk1 h]; exact (hcells (k - 1) (by omega)).1
      obtain ⟨n, hn⟩ : ∃ n, n = l.getD k 0 := ⟨_, rfl⟩
      have hd := drop_at l hlt
      have hnx : k + 1 - 1 = k := Nat.add_sub_cancel _ _
      have HQ := Lib.hid hq
      have HRN : nbs n (l.drop (k + 1)) = nbs 0 l → 0 < n → ∀ (i : Int), i = ((k + 1 : Nat) : Int) → ∀ q', RnRel l W (.int .i64 i) (wr.drewN q') := fun h h0 i hi q' => ⟨⟨q + q', by rw [HQ.out]; exact World.drewN_drewN _ _ _⟩, k + 1, n, by rw [hi], by omega, by omega, fun h => by omega, fun _ => by rw [hnx]; exact hn, h⟩
      have HRN' := Lib.hid HRN
      have HFA := Lib.hid (fun q' => show ∃ q2, wr.drewN q' = W.drewN q2 from ⟨q + q', by rw [HQ.out]; exact World.drewN_drewN _ _ _⟩)
      rw [← hn] at hc hd
      rw [hd, nbs] at hz
      clear HRN hq hcells hn hd hk1
      by_cases h1 : n < 1
      · have d1 : decide (n < 1) = true := decide_eq_true h1
        rw [if_pos (.inl (by omega))] at hz
        have HZ := Lib.hid hz
        clear hz h1 hcp
        go_wp2_with fail
        go_quiet (fail)
        go_wp2_with fail
        go_returns
        exact ⟨by rw [← HZ.out]; rfl, HFA.out _⟩
      · have d1 : decide (n < 1) = false := decide_eq_false h1
        by_cases h2 : 24 < n
        · have d2 : decide (24 < n) = true := decide_eq_true h2
          rw [if_pos (.inr h2)] at hz
          have HZ := Lib.hid hz
          clear hz h1 h2 hcp
          go_wp2_with fail
          go_quiet (fail)
          go_wp2_with fail
          go_returns
          exact ⟨by rw [← HZ.out]; rfl, HFA.out _⟩
        · have d2 : decide (24 < n) = false := decide_eq_false h2
          by_cases h3 : 0 < k
          · have hcp := hcp h3
            obtain ⟨j, rfl⟩ : ∃ j, k = j + 1 := ⟨k - 1, by omega⟩
            simp only [Nat.add_sub_cancel] at hcp
            have d3 : decide (((j + 1 : Nat) : Int) > 0) = true := decide_eq_true (by omega)
            have d3' : decide (0 < (j : Int) + 1) = true := decide_eq_true (by omega)
            have d3'' : decide (0 < j + 1) = true := decide_eq_true (by omega)
            have hw : IntKind.i64.wrap ((j : Int) + 1 - 1) = (j : Int) := by rw [Int.add_sub_cancel]; exact IntWalk.i64_in _ (by omega)
            by_cases h4 : n ≤ z
            · have d4 : decide (n ≤ z) = true := decide_eq_true h4
              rw [if_pos (.inl h4)] at hz
              have HZ := Lib.hid hz
              clear hz h1 h2 h4
              go_wp2_with fail
              go_quiet (fail)
              go_wp2_with fail
              go_returns
              exact ⟨by rw [← HZ.out]; rfl, HFA.out _⟩
            · have d4 : decide (n ≤ z) = false := decide_eq_false h4
              rw [if_neg (by rintro (h | h) <;> omega)] at hz
              have HREL := Lib.hid (HRN'.out hz (by omega) ((j : Int) + 1 + 1) (by omega))
              clear hz h1 h2 h4
              go_wp2_with fail
              go_quiet (fail)
              go_wp2_with fail
              go_roundw
              case rel => first | exact (HREL.out _) | exact ⟨_, (HREL.out _), rfl⟩ | ((repeat apply Exists.intro); exact ⟨(HREL.out _), rfl⟩)
              case measure => simp [intOf]; omega
          · obtain rfl : k = 0 := by omega
            obtain rfl := hk0 rfl
            rw [if_neg (by rintro (h | h) <;> omega)] at hz
            have HREL := Lib.hid (HRN'.out hz (by omega) 1 (by omega))
            simp only [Nat.add_zero] at hc
            clear hz h1 h2 hcp
            go_wp2_with fail
            go_quiet (fail)
            go_wp2_with fail
            go_roundw
            case rel => first | exact (HREL.out _) | exact ⟨_, (HREL.out _), rfl⟩ | ((repeat apply Exists.intro); exact ⟨(HREL.out _), rfl⟩)
            case measure => simp [intOf]; omega
    · obtain rfl : k = l.length := by omega
      rw [List.drop_length, nbs] at hz
      have HZ := Lib.hid hz
      have HQ := Lib.hid hq
      clear hz hq
      go_wp2_with fail
      go_returns
      exact ⟨by rw [← HZ.out]; rfl, q, HQ.out⟩

end Go.Proofs.Ytmjaompepchieaa
