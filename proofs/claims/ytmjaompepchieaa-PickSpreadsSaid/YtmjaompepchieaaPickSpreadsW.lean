/- The walk of the law PickSpreads. (Printed by mkpspreads.py.) -/
import Derived.Test.YtmjaompepchieaaPkO
import Derived.Test.YtmjaompepchieaaPkU
set_option linter.unusedSimpArgs false
set_option linter.unusedVariables false
namespace Go.Proofs.Ytmjaompepchieaa
open Go.RowKit Go.ChangeShapes Go.WideShapes Go.Sort

set_option maxRecDepth 100000 in
set_option maxHeartbeats 12800000 in
theorem pickSpreads_walk (x : Option Addr × Nat × List Int) (n : Int) (W : World) (hx : ArgL W x) (hn : -9223372036854775808 ≤ n ∧ n ≤ 9223372036854775807) : Calls Try.prog 6 #[.slice x.1 x.2.2.length x.2.1, .int .i64 n] W fun e W' => e = .returned (.bool true) ∧ Below W.heap.size W W' := by
  obtain ⟨hs1, hs2⟩ := hx.shape
  obtain ⟨a, cap, l⟩ := x
  simp only at hs1 hs2 ⊢
  obtain ⟨m, hm⟩ : ∃ m, m = l.length := ⟨_, rfl⟩
  rw [← hm] at hs1 ⊢
  obtain ⟨k, hk⟩ : ∃ k, k = min m 100 := ⟨_, rfl⟩
  have HL := Lib.hid (show Lst W (.slice a k cap) (l.take k) from hx.cut (by simp only; omega) (by omega))
  have hmin : min (m : Int) 100 = (k : Int) := by omega
  have hkm : k ≤ m := by omega
  clear hm hk hx
  obtain ⟨z, hz⟩ : ∃ z, z = l.take k := ⟨_, rfl⟩
  rw [← hz] at HL
  clear hz
  have HK := Lib.hid (show Kn W W [(.slice a k cap, z)] from ⟨Below.refl _ _, fun q hq => by
    rcases List.mem_cons.1 hq with rfl | hq
    · exact HL.out
    · cases hq⟩)
  have HPA := Lib.hid (fun (t : Int) (ht : I64 t) => show ∀ (V : World) v, Lst V v z → Calls Try.prog 19 #[v, .int .i64 t] V (LE V (spz z t).1 (spz z t).2) from fun V v h => (spread_any z t v V h ht).mono fun x X h => LE.of (Below.refl _ _) h rfl)
  have HPB := Lib.hid (fun (t : Int) (ht : I64 t) => show ∀ (V : World) v, Lst V v z → Calls Try.prog 20 #[v, .int .i64 t] V (LE V (spz z t).1 (spz z t).2) from fun V v h => (rspread_any z t v V h ht).mono fun x X h => LE.of (Below.refl _ _) h rfl)
  clear HL
  by_cases hb : n > 200
  · have d0 : decide (n > 200) = true := decide_eq_true hb
    by_cases hc : n ≤ 4096
    · have d1 : decide (n ≤ 4096) = true := decide_eq_true hc
      obtain ⟨t, ht⟩ : ∃ t, t = n.tmod 201 := ⟨_, rfl⟩
      have hti : I64 t := by rw [ht, Int.tmod_eq_emod_of_nonneg (by omega)]; unfold I64; omega
      have hr := ht.symm
      clear ht
      have HA := Lib.hid (HPA.out t hti)
      have HB := Lib.hid (HPB.out t hti)
      obtain ⟨⟨u, er⟩, hu⟩ : ∃ u, u = spz z t := ⟨_, rfl⟩
      rw [← hu] at HA HB
      simp only at HA HB
      clear hu HPA HPB
      go_enter Try.func6, Try.ntmps6
      go_wp2_with fail
      refine (HA.out W _ HK.out.head).mono ?_
      rintro x V1 ⟨v, rfl, h1, h2⟩
      have HK1 := Lib.hid ((HK.out.later h2).more h1)
      clear h1 h2 HK
      obtain ⟨a1, c1, rfl, _, _, _⟩ := HK1.out.head.shape
      go_wp2_with fail
      refine (HB.out V1 _ HK1.out.tail.head).mono ?_
      rintro x V2 ⟨v, rfl, h1, h2⟩
      have HK2 := Lib.hid ((HK1.out.later h2).more h1)
      clear h1 h2 HK1
      obtain ⟨a2, c2, rfl, _, _, _⟩ := HK2.out.head.shape
      have HS := Lib.hid (show Calls Try.prog 13 #[.slice a1 u.length c1, .slice a2 u.length c2] V2 (SE V2 true) from (rsame_any u u _ _ V2 HK2.out.tail.head HK2.out.head).mono fun x X h => SE.of (Below.refl _ _) (by rw [decide_eq_true rfl] at h; exact h))
      go_wp2_with fail
      refine HS.out.mono ?_
      rintro x V3 ⟨rfl, h2⟩
      have HK3 := Lib.hid (HK2.out.later h2)
      clear h2 HK2
      go_wp2_with fail
      refine (works_any _).mono ?_
      rintro x V4 ⟨rfl, h2⟩
      have HK4 := Lib.hid (HK3.out.later h2)
      clear h2 HK3
      go_wp2_with fail
      go_returns
      exact ⟨rfl, HK4.out.bel⟩
    · have d1 : decide (n ≤ 4096) = false := decide_eq_false hc
      have HA := Lib.hid (HPA.out n hn)
      have HB := Lib.hid (HPB.out n hn)
      obtain ⟨⟨u, er⟩, hu⟩ : ∃ u, u = spz z n := ⟨_, rfl⟩
      rw [← hu] at HA HB
      simp only at HA HB
      clear hu HPA HPB
      go_enter Try.func6, Try.ntmps6
      go_wp2_with fail
      refine (HA.out W _ HK.out.head).mono ?_
      rintro x V1 ⟨v, rfl, h1, h2⟩
      have HK1 := Lib.hid ((HK.out.later h2).more h1)
      clear h1 h2 HK
      obtain ⟨a1, c1, rfl, _, _, _⟩ := HK1.out.head.shape
      go_wp2_with fail
      refine (HB.out V1 _ HK1.out.tail.head).mono ?_
      rintro x V2 ⟨v, rfl, h1, h2⟩
      have HK2 := Lib.hid ((HK1.out.later h2).more h1)
      clear h1 h2 HK1
      obtain ⟨a2, c2, rfl, _, _, _⟩ := HK2.out.head.shape
      have HS := Lib.hid (show Calls Try.prog 13 #[.slice a1 u.length c1, .slice a2 u.length c2] V2 (SE V2 true) from (rsame_any u u _ _ V2 HK2.out.tail.head HK2.out.head).mono fun x X h => SE.of (Below.refl _ _) (by rw [decide_eq_true rfl] at h; exact h))
      go_wp2_with fail
      refine HS.out.mono ?_
      rintro x V3 ⟨rfl, h2⟩
      have HK3 := Lib.hid (HK2.out.later h2)
      clear h2 HK2
      go_wp2_with fail
      refine (works_any _).mono ?_
      rintro x V4 ⟨rfl, h2⟩
      have HK4 := Lib.hid (HK3.out.later h2)
      clear h2 HK3
      go_wp2_with fail
      go_returns
      exact ⟨rfl, HK4.out.bel⟩
  · have d0 : decide (n > 200) = false := decide_eq_false hb
    have HA := Lib.hid (HPA.out n hn)
    have HB := Lib.hid (HPB.out n hn)
    obtain ⟨⟨u, er⟩, hu⟩ : ∃ u, u = spz z n := ⟨_, rfl⟩
    rw [← hu] at HA HB
    simp only at HA HB
    clear hu HPA HPB
    go_enter Try.func6, Try.ntmps6
    go_wp2_with fail
    refine (HA.out W _ HK.out.head).mono ?_
    rintro x V1 ⟨v, rfl, h1, h2⟩
    have HK1 := Lib.hid ((HK.out.later h2).more h1)
    clear h1 h2 HK
    obtain ⟨a1, c1, rfl, _, _, _⟩ := HK1.out.head.shape
    go_wp2_with fail
    refine (HB.out V1 _ HK1.out.tail.head).mono ?_
    rintro x V2 ⟨v, rfl, h1, h2⟩
    have HK2 := Lib.hid ((HK1.out.later h2).more h1)
    clear h1 h2 HK1
    obtain ⟨a2, c2, rfl, _, _, _⟩ := HK2.out.head.shape
    have HS := Lib.hid (show Calls Try.prog 13 #[.slice a1 u.length c1, .slice a2 u.length c2] V2 (SE V2 true) from (rsame_any u u _ _ V2 HK2.out.tail.head HK2.out.head).mono fun x X h => SE.of (Below.refl _ _) (by rw [decide_eq_true rfl] at h; exact h))
    go_wp2_with fail
    refine HS.out.mono ?_
    rintro x V3 ⟨rfl, h2⟩
    have HK3 := Lib.hid (HK2.out.later h2)
    clear h2 HK2
    go_wp2_with fail
    refine (works_any _).mono ?_
    rintro x V4 ⟨rfl, h2⟩
    have HK4 := Lib.hid (HK3.out.later h2)
    clear h2 HK3
    go_wp2_with fail
    go_returns
    exact ⟨rfl, HK4.out.bel⟩

end Go.Proofs.Ytmjaompepchieaa
