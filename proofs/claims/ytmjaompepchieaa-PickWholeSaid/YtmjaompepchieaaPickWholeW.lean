/- The walk of the law PickWhole. -/
import Derived.Test.YtmjaompepchieaaPkKn
set_option linter.unusedSimpArgs false
set_option linter.unusedVariables false
namespace Go.Proofs.Ytmjaompepchieaa
open Go.RowKit Go.ChangeShapes Go.WideShapes Go.Sort

def PwRel (W : World) (vs : List (Value × List Int)) (a : List Int) (m : Nat) (s i : Value) (wr : World) : Prop := Kn W wr vs ∧ ∃ (k : Nat) (z : Int), i = .int .i64 k ∧ s = .int .i64 z ∧ k ≤ m ∧ z = (a.take k).sum ∧ 0 ≤ z ∧ z ≤ 255 * k

theorem spz_ok (s : Nat) (n : Nat) (hn : n ≤ 4096) : spz (ofs s 24) n = (spl (ofs s 24) n, 0) := by
  unfold spz
  rw [if_pos ⟨ofs_nbs s, by omega⟩, if_pos (by omega)]; rfl

set_option maxRecDepth 100000 in
set_option maxHeartbeats 6400000 in
theorem pickWhole_nat (W : World) (s n m : Nat) (hs : s < 4294967296) (hn : n < 256) (hm : m < 256) : Calls Try.prog 7 #[.int .u32 s, .int .u8 n, .int .u8 m] W fun e W' => e = .returned (.bool true) ∧ Below W.heap.size W W' := by
  obtain ⟨l, hl⟩ : ∃ l, l = ofs s 24 := ⟨_, rfl⟩
  have HW := Lib.hid (works_any W)
  have HO := Lib.hid (fun V => of_any s V hs)
  have HA := Lib.hid (show ∀ (V : World) v, Lst V v l → Calls Try.prog 19 #[v, .int .i64 n] V (LE V (spl l n) 0) from fun V v h => (spread_any l n v V h ⟨by omega, by omega⟩).mono fun x X h => LE.of (s := (spl l n, 0)) (Below.refl _ _) h (by rw [hl]; exact spz_ok s n (by omega)))
  have HB := Lib.hid (show ∀ (V : World) v, Lst V v l → Calls Try.prog 19 #[v, .int .i64 ((n : Int) + (m : Int))] V (LE V (spl l (n + m)) 0) from fun V v h => by
    have := (spread_any l ((n + m : Nat) : Int) v V h ⟨by omega, by omega⟩).mono fun x X h => LE.of (s := (spl l (n + m), 0)) (Below.refl _ _) h (by rw [hl]; exact spz_ok s (n + m) (by omega))
    rw [show ((n : Int) + (m : Int)) = ((n + m : Nat) : Int) from by simp]
    exact this)
  have HR := Lib.hid (show Rise l by rw [hl]; exact ofs_rise s 24)
  obtain ⟨M, hM⟩ : ∃ M, M = l.length := ⟨_, rfl⟩
  have hM24 : M ≤ 24 := by rw [hM, hl]; exact ofs_len s 24
  rw [← hl] at HO
  have HM := Lib.hid hM
  clear hM hl
  go_enter Try.func7, Try.ntmps7
  go_wp2_with fail
  refine HW.out.mono ?_
  rintro x V1 ⟨rfl, h1⟩
  have HK1 := Lib.hid (show Kn W V1 [] from ⟨h1, by simp⟩)
  clear h1
  go_wp2_with fail
  refine (HO.out V1).mono ?_
  rintro x V2 ⟨v, rfl, h2, h3⟩
  have HK2 := Lib.hid ((HK1.out.later h3).more h2.1)
  clear h2 h3 HK1
  obtain ⟨av, cv, rfl, _, _, _⟩ := HK2.out.head.shape
  rw [← HM.out] at HK2 ⊢
  go_wp2_with fail
  refine (HA.out V2 _ HK2.out.head).mono ?_
  rintro x V3 ⟨v, rfl, h2, h3⟩
  have HK3 := Lib.hid ((HK2.out.later h3).more h2)
  clear h2 h3 HK2
  obtain ⟨aa, ca, rfl, _, _, _⟩ := HK3.out.head.shape
  rw [spl_len, ← HM.out] at HK3 ⊢
  go_wp2_with fail
  refine (HB.out V3 _ HK3.out.tail.head).mono ?_
  rintro x V4 ⟨v, rfl, h2, h3⟩
  have HK4 := Lib.hid ((HK3.out.later h3).more h2)
  clear h2 h3 HK3
  obtain ⟨ab, cb, rfl, _, _, _⟩ := HK4.out.head.shape
  rw [spl_len, ← HM.out] at HK4 ⊢
  go_wp2_with fail
  obtain ⟨vs, hvs⟩ : ∃ vs, vs = [(Value.slice ab M cb, spl l (n + m)), (Value.slice aa M ca, spl l n), (Value.slice av M cv, l)] := ⟨_, rfl⟩
  rw [← hvs] at HK4
  have HS0 := Lib.hid (show PwRel W vs (spl l n) M (.int .i64 0) (.int .i64 0) V4 from ⟨HK4.out, 0, 0, rfl, rfl, Nat.zero_le _, rfl, Int.le_refl _, Int.le_refl _⟩)
  have HVS := Lib.hid hvs
  clear hvs HK4
  go_loopw [12, 13] (fun s i wr => PwRel W vs (spl l n) M s i wr) (fun _ i _ => M - (intOf i).toNat)
  case atStart => exact HS0.out
  case round =>
    obtain ⟨hK, k, z, rfl, rfl, hk, hz, hz0, hz1⟩ := hrel
    by_cases hlt : k < M
    · have hlz : decide ((k : Int) < (M : Int)) = true := decide_eq_true (by omega)
      obtain ⟨x, hx⟩ : ∃ x, x = cnt l n (l.getD k 0) := ⟨_, rfl⟩
      obtain ⟨y, hy⟩ : ∃ y, y = cnt l (n + m) (l.getD k 0) := ⟨_, rfl⟩
      have hxn : x ≤ n := by rw [hx]; exact cnt_le _ _ _
      have hyn : y ≤ n + m := by rw [hy]; exact cnt_le _ _ _
      have hxy : x ≤ y := by rw [hx, hy]; exact cnt_mono _ _ _ _
      have hkl : k < l.length := by rw [← HM.out]; exact hlt
      have cx : ∃ g off, aa = some ⟨g, off, none⟩ ∧ wr.cell? ⟨g, off + k, none⟩ = some (.int .i64 x) := by
        obtain ⟨g, off, c, he, _, _, _, _, hcells⟩ := (hK.live (Value.slice aa M ca, spl l n) (by rw [HVS.out]; exact .tail _ (.head _))).form (by rw [spl_len]; omega)
        have := (hcells k (by rw [spl_len]; exact hkl)).1
        rw [spl_at _ _ _ hkl, ← hx] at this
        exact ⟨g, off, by simp at he; exact he.1, this⟩
      have cy : ∃ g off, ab = some ⟨g, off, none⟩ ∧ wr.cell? ⟨g, off + k, none⟩ = some (.int .i64 y) := by
        obtain ⟨g, off, c, he, _, _, _, _, hcells⟩ := (hK.live (Value.slice ab M cb, spl l (n + m)) (by rw [HVS.out]; exact .head _)).form (by rw [spl_len]; omega)
        have := (hcells k (by rw [spl_len]; exact hkl)).1
        rw [spl_at _ _ _ hkl, ← hy] at this
        exact ⟨g, off, by simp at he; exact he.1, this⟩
      obtain ⟨g, off, ha, cx⟩ := cx
      obtain ⟨g2, off2, hb, cy⟩ := cy
      have hd : decide ((y : Int) < (x : Int)) = false := decide_eq_false (by omega)
      have HREL := Lib.hid (fun q' => show PwRel W vs (spl l n) M (.int .i64 (z + (x : Int))) (.int .i64 ((k : Int) + 1)) (wr.drewN q') from ⟨hK.drewN q', k + 1, z + x, rfl, rfl, by omega, by
        rw [take_sum _ _ (by rw [spl_len]; exact hkl), spl_at _ _ _ hkl, ← hx, hz], by omega, by omega⟩)
      clear hx hy hK hz HVS
      subst ha hb
      go_wp2_with fail
      go_quiet (fail)
      go_wp2_with fail
      go_roundw
      case rel => first | exact (HREL.out _) | exact ⟨_, (HREL.out _), rfl⟩ | ((repeat apply Exists.intro); exact ⟨(HREL.out _), rfl⟩)
      case measure => simp [intOf]; omega
    · obtain rfl : k = M := by omega
      have HB2 := Lib.hid hK.bel
      have hzz : k = 0 ∨ z = n := by
        by_cases h0 : k = 0
        · exact .inl h0
        · right
          rw [hz, List.take_of_length_le (by rw [spl_len, ← HM.out]; exact Nat.le_refl _)]
          exact spl_sum HR.out (by rw [← HM.out]; omega) n
      clear hz hK
      by_cases h0 : k = 0
      · subst h0
        go_wp2_with fail
        go_returns
        exact ⟨rfl, HB2.out⟩
      · have h00 : ((k : Int) == 0) = false := by rw [beq_eq_false_iff_ne]; omega
        obtain rfl : z = n := by rcases hzz with h | h; exact absurd h h0; exact h
        clear hzz
        go_wp2_with fail
        go_returns
        exact ⟨rfl, HB2.out⟩
theorem pickWhole_walk (s n m : Int) (W : World) (hs : 0 ≤ s ∧ s ≤ 4294967295) (hn : 0 ≤ n ∧ n ≤ 255) (hm : 0 ≤ m ∧ m ≤ 255) : Calls Try.prog 7 #[.int .u32 s, .int .u8 n, .int .u8 m] W fun e W' => e = .returned (.bool true) ∧ Below W.heap.size W W' := by
  obtain ⟨s, rfl⟩ : ∃ k : Nat, s = k := ⟨s.toNat, by omega⟩
  obtain ⟨n, rfl⟩ : ∃ k : Nat, n = k := ⟨n.toNat, by omega⟩
  obtain ⟨m, rfl⟩ : ∃ k : Nat, m = k := ⟨m.toNat, by omega⟩
  exact pickWhole_nat W s n m (by omega) (by omega) (by omega)

end Go.Proofs.Ytmjaompepchieaa
