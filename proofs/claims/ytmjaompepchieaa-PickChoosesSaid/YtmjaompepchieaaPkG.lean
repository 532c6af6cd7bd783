/- Contracts of the two compares of lists, of the routers of a set, and of the law's own example. -/
import Derived.Test.YtmjaompepchieaaPkF
set_option linter.unusedSimpArgs false
set_option linter.unusedVariables false
namespace Go.Proofs.Ytmjaompepchieaa
open Go.RowKit Go.ChangeShapes Go.WideShapes Go.Sort

theorem getD_ext {l m : List Int} (h : l.length = m.length) (hh : ∀ k, k < l.length → l.getD k 0 = m.getD k 0) : l = m := by
  apply List.ext_getElem? 
  intro k
  by_cases hk : k < l.length
  · have := hh k hk
    rw [List.getD_eq_getElem?_getD, List.getD_eq_getElem?_getD, List.getElem?_eq_getElem hk, List.getElem?_eq_getElem (by omega)] at this
    rw [List.getElem?_eq_getElem hk, List.getElem?_eq_getElem (by omega)]
    simpa using this
  · rw [List.getElem?_eq_none (by omega), List.getElem?_eq_none (by omega)]
def SmRel (l m : List Int) (W : World) (i : Value) (wr : World) : Prop := (∃ q, wr = W.drewN q) ∧ ∃ k : Nat, i = .int .i64 k ∧ k ≤ l.length ∧ ∀ j, j < k → l.getD j 0 = m.getD j 0

set_option maxHeartbeats 1600000 in
theorem same_any (l m : List Int) (v u : Value) (W : World) (hl : Lst W v l) (hm : Lst W u m) : Calls Try.prog 18 #[v, u] W fun x W' => x = .returned (.bool (decide (l = m))) ∧ ∃ q, W' = W.drewN q := by
  have HL := Lib.hid hl
  have HM := Lib.hid hm
  obtain ⟨a, cap, rfl, hs1, _, _⟩ := hl.shape
  obtain ⟨b, cap2, rfl, hs2, _, _⟩ := hm.shape
  clear hl hm
  by_cases hlen : l.length = m.length
  · have hd0 : decide ((l.length : Int) = (m.length : Int)) = true := decide_eq_true (by omega)
    have hd1 : ((l.length : Int) != (m.length : Int)) = false := by rw [hlen]; simp
    obtain ⟨n, hn⟩ : ∃ n, n = l.length := ⟨_, rfl⟩
    have hmn : m.length = n := by rw [hn, hlen]
    rw [hmn, ← hn] at hd0 hd1 ⊢
    rw [← hn] at hs1
    have HEX := Lib.hid (show (∀ k, k < n → l.getD k 0 = m.getD k 0) → l = m from fun h => getD_ext hlen (by rw [← hn]; exact h))
    have HN := Lib.hid hn
    have HMN := Lib.hid hmn
    clear hn hmn hlen hs2
    have HS0 := Lib.hid (show SmRel l m W (.int .i64 0) W from ⟨⟨0, rfl⟩, 0, rfl, Nat.zero_le _, fun j hj => absurd hj (by omega)⟩)
    go_enter Try.func18, Try.ntmps18
    go_wp2_with fail
    go_loopw [5] (fun i wr => SmRel l m W i wr) (fun i _ => n - (intOf i).toNat)
    case atStart => exact HS0.out
    case round =>
      obtain ⟨⟨q, hq⟩, k, rfl, hk, hh⟩ := hrel
      rw [← HN.out] at hk
      by_cases hlt : k < n
      · have hlz : decide ((k : Int) < (n : Int)) = true := decide_eq_true (by omega)
        have cx : ∃ g off, a = some ⟨g, off, none⟩ ∧ wr.cell? ⟨g, off + k, none⟩ = some (.int .i64 (l.getD k 0)) := by
          obtain ⟨g, off, c, he, _, _, _, _, hcells⟩ := HL.out.form (by rw [← HN.out]; omega)
          exact ⟨g, off, by simp at he; exact he.1, by rw [hq]; exact (hcells k (by rw [← HN.out]; exact hlt)).1⟩
        have cy : ∃ g off, b = some ⟨g, off, none⟩ ∧ wr.cell? ⟨g, off + k, none⟩ = some (.int .i64 (m.getD k 0)) := by
          obtain ⟨g, off, c, he, _, _, _, _, hcells⟩ := HM.out.form (by rw [HMN.out]; omega)
          exact ⟨g, off, by simp at he; exact he.1, by rw [hq]; exact (hcells k (by rw [HMN.out]; exact hlt)).1⟩
        obtain ⟨g, off, rfl, cx⟩ := cx
        obtain ⟨g2, off2, rfl, cy⟩ := cy
        have HQ := Lib.hid hq
        have HFA := Lib.hid (fun q' => show ∃ q2, wr.drewN q' = W.drewN q2 from ⟨q + q', by rw [HQ.out]; exact World.drewN_drewN _ _ _⟩)
        obtain ⟨x, hx⟩ : ∃ x, x = l.getD k 0 := ⟨_, rfl⟩
        obtain ⟨y, hy⟩ : ∃ y, y = m.getD k 0 := ⟨_, rfl⟩
        rw [← hx] at cx
        rw [← hy] at cy
        by_cases hxy : x = y
        · have hd : (x != y) = false := by rw [hxy]; simp
          have hde : decide (x = y) = true := decide_eq_true hxy
          have HREL := Lib.hid (fun q' => show SmRel l m W (.int .i64 ((k : Int) + 1)) (wr.drewN q') from ⟨HFA.out q', k + 1, rfl, by rw [← HN.out]; omega, fun j hj => by
            by_cases hjk : j < k
            · exact hh j hjk
            · obtain rfl : j = k := by omega
              rw [← hx, ← hy, hxy]⟩)
          subst hxy
          clear hh hq hx hy
          go_wp2_with fail
          go_quiet (fail)
          go_wp2_with fail
          go_roundw
          case rel => first | exact (HREL.out _) | exact ⟨_, (HREL.out _), rfl⟩ | ((repeat apply Exists.intro); exact ⟨(HREL.out _), rfl⟩)
          case measure => simp [intOf]; omega
        · have hd : (x != y) = true := by simp [hxy]
          have hde : decide (x = y) = false := decide_eq_false hxy
          have HE := Lib.hid (show decide (l = m) = false from decide_eq_false (fun h => hxy (by rw [hx, hy, h])))
          clear hh hq hx hy hxy
          go_wp2_with fail
          go_quiet (fail)
          go_wp2_with fail
          go_returns
          exact ⟨by rw [HE.out]; rfl, HFA.out _⟩
      · obtain rfl : k = n := by omega
        have HE := Lib.hid (show decide (l = m) = true from decide_eq_true (HEX.out hh))
        have HQ := Lib.hid hq
        clear hh hq
        go_wp2_with fail
        go_returns
        exact ⟨by rw [HE.out]; rfl, q, HQ.out⟩
  · have hd0 : decide ((l.length : Int) = (m.length : Int)) = false := decide_eq_false (by omega)
    have hd1 : ((l.length : Int) != (m.length : Int)) = true := by simp; omega
    have HE := Lib.hid (show decide (l = m) = false from decide_eq_false (fun h => hlen (by rw [h])))
    clear hlen
    go_enter Try.func18, Try.ntmps18
    go_wp2_with fail
    go_returns
    exact ⟨by rw [HE.out]; rfl, 0, rfl⟩

set_option maxHeartbeats 1600000 in
theorem rsame_any (l m : List Int) (v u : Value) (W : World) (hl : Lst W v l) (hm : Lst W u m) : Calls Try.prog 13 #[v, u] W fun x W' => x = .returned (.bool (decide (l = m))) ∧ ∃ q, W' = W.drewN q := by
  have HL := Lib.hid hl
  have HM := Lib.hid hm
  obtain ⟨a, cap, rfl, hs1, _, _⟩ := hl.shape
  obtain ⟨b, cap2, rfl, hs2, _, _⟩ := hm.shape
  clear hl hm
  by_cases hlen : l.length = m.length
  · have hd0 : decide ((l.length : Int) = (m.length : Int)) = true := decide_eq_true (by omega)
    have hd1 : ((l.length : Int) != (m.length : Int)) = false := by rw [hlen]; simp
    obtain ⟨n, hn⟩ : ∃ n, n = l.length := ⟨_, rfl⟩
    have hmn : m.length = n := by rw [hn, hlen]
    rw [hmn, ← hn] at hd0 hd1 ⊢
    rw [← hn] at hs1
    have HEX := Lib.hid (show (∀ k, k < n → l.getD k 0 = m.getD k 0) → l = m from fun h => getD_ext hlen (by rw [← hn]; exact h))
    have HN := Lib.hid hn
    have HMN := Lib.hid hmn
    clear hn hmn hlen hs2
    have HS0 := Lib.hid (show SmRel l m W (.int .i64 0) W from ⟨⟨0, rfl⟩, 0, rfl, Nat.zero_le _, fun j hj => absurd hj (by omega)⟩)
    go_enter Try.func13, Try.ntmps13
    go_wp2_with fail
    go_loopw [5] (fun i wr => SmRel l m W i wr) (fun i _ => n - (intOf i).toNat)
    case atStart => exact HS0.out
    case round =>
      obtain ⟨⟨q, hq⟩, k, rfl, hk, hh⟩ := hrel
      rw [← HN.out] at hk
      by_cases hlt : k < n
      · have hlz : decide ((k : Int) < (n : Int)) = true := decide_eq_true (by omega)
        have cx : ∃ g off, a = some ⟨g, off, none⟩ ∧ wr.cell? ⟨g, off + k, none⟩ = some (.int .i64 (l.getD k 0)) := by
          obtain ⟨g, off, c, he, _, _, _, _, hcells⟩ := HL.out.form (by rw [← HN.out]; omega)
          exact ⟨g, off, by simp at he; exact he.1, by rw [hq]; exact (hcells k (by rw [← HN.out]; exact hlt)).1⟩
        have cy : ∃ g off, b = some ⟨g, off, none⟩ ∧ wr.cell? ⟨g, off + k, none⟩ = some (.int .i64 (m.getD k 0)) := by
          obtain ⟨g, off, c, he, _, _, _, _, hcells⟩ := HM.out.form (by rw [HMN.out]; omega)
          exact ⟨g, off, by simp at he; exact he.1, by rw [hq]; exact (hcells k (by rw [HMN.out]; exact hlt)).1⟩
        obtain ⟨g, off, rfl, cx⟩ := cx
        obtain ⟨g2, off2, rfl, cy⟩ := cy
        have HQ := Lib.hid hq
        have HFA := Lib.hid (fun q' => show ∃ q2, wr.drewN q' = W.drewN q2 from ⟨q + q', by rw [HQ.out]; exact World.drewN_drewN _ _ _⟩)
        obtain ⟨x, hx⟩ : ∃ x, x = l.getD k 0 := ⟨_, rfl⟩
        obtain ⟨y, hy⟩ : ∃ y, y = m.getD k 0 := ⟨_, rfl⟩
        rw [← hx] at cx
        rw [← hy] at cy
        by_cases hxy : x = y
        · have hd : (x != y) = false := by rw [hxy]; simp
          have hde : decide (x = y) = true := decide_eq_true hxy
          have HREL := Lib.hid (fun q' => show SmRel l m W (.int .i64 ((k : Int) + 1)) (wr.drewN q') from ⟨HFA.out q', k + 1, rfl, by rw [← HN.out]; omega, fun j hj => by
            by_cases hjk : j < k
            · exact hh j hjk
            · obtain rfl : j = k := by omega
              rw [← hx, ← hy, hxy]⟩)
          subst hxy
          clear hh hq hx hy
          go_wp2_with fail
          go_quiet (fail)
          go_wp2_with fail
          go_roundw
          case rel => first | exact (HREL.out _) | exact ⟨_, (HREL.out _), rfl⟩ | ((repeat apply Exists.intro); exact ⟨(HREL.out _), rfl⟩)
          case measure => simp [intOf]; omega
        · have hd : (x != y) = true := by simp [hxy]
          have hde : decide (x = y) = false := decide_eq_false hxy
          have HE := Lib.hid (show decide (l = m) = false from decide_eq_false (fun h => hxy (by rw [hx, hy, h])))
          clear hh hq hx hy hxy
          go_wp2_with fail
          go_quiet (fail)
          go_wp2_with fail
          go_returns
          exact ⟨by rw [HE.out]; rfl, HFA.out _⟩
      · obtain rfl : k = n := by omega
        have HE := Lib.hid (show decide (l = m) = true from decide_eq_true (HEX.out hh))
        have HQ := Lib.hid hq
        clear hh hq
        go_wp2_with fail
        go_returns
        exact ⟨by rw [HE.out]; rfl, q, HQ.out⟩
  · have hd0 : decide ((l.length : Int) = (m.length : Int)) = false := decide_eq_false (by omega)
    have hd1 : ((l.length : Int) != (m.length : Int)) = true := by simp; omega
    have HE := Lib.hid (show decide (l = m) = false from decide_eq_false (fun h => hlen (by rw [h])))
    clear hlen
    go_enter Try.func13, Try.ntmps13
    go_wp2_with fail
    go_returns
    exact ⟨by rw [HE.out]; rfl, 0, rfl⟩

end Go.Proofs.Ytmjaompepchieaa
