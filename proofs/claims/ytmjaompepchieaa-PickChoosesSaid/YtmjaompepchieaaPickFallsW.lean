/- The walk of the law PickFalls. -/
import Derived.Test.YtmjaompepchieaaPkKn
import Derived.Test.YtmjaompepchieaaPkStab
import Derived.Deep.QuietTactic
import Derived.BigQuiet
set_option linter.unusedSimpArgs false
set_option linter.unusedVariables false
namespace Go.Proofs.Ytmjaompepchieaa
open Go.RowKit Go.ChangeShapes Go.WideShapes Go.Sort

theorem rk_pair (e : Nat) (l : List Int) : (rk e l).Pairwise fun x y => key e y ≤ key e x := by
  have h : (rk e l).Pairwise fun x y => decide (key e y ≤ key e x) = true := by
    refine List.pairwise_mergeSort ?_ ?_ _
    · intro a b c h1 h2
      rw [decide_eq_true_eq] at *
      omega
    · intro a b
      rw [Bool.or_eq_true, decide_eq_true_eq, decide_eq_true_eq]
      omega
  exact h.imp fun h => of_decide_eq_true h
theorem rise_nodup {l : List Int} (h : Rise l) : l.Nodup := h.imp fun h => by omega
theorem rk_strict {e : Nat} {l : List Int} (he : e < 4294967296) (hl : nbs 0 l = true) : (rk e l).Pairwise fun x y => key e y < key e x := by
  obtain ⟨hr, hin⟩ := nbs_rise l 0 hl
  have hn : (rk e l).Nodup := (rk_perm e l).nodup_iff.2 (rise_nodup hr)
  refine ((rk_pair e l).and hn).imp_of_mem ?_
  rintro x y hx hy ⟨h1, h2⟩
  have ix := hin x ((rk_perm e l).mem_iff.1 hx)
  have iy := hin y ((rk_perm e l).mem_iff.1 hy)
  have : key e x ≠ key e y := fun h => h2 (key_inj he (by omega) (by omega) (by omega) (by omega) h)
  omega
theorem rk_at {e : Nat} {l : List Int} (he : e < 4294967296) (hl : nbs 0 l = true) {i j : Nat} (hij : i < j) (hj : j < l.length) : key e ((rk e l).getD j 0) < key e ((rk e l).getD i 0) := by
  have hj' : j < (rk e l).length := by rw [rk_len]; exact hj
  have := List.pairwise_iff_getElem.1 (rk_strict he hl) i j (by omega) hj' hij
  rw [List.getD_eq_getElem?_getD, List.getElem?_eq_getElem hj', List.getD_eq_getElem?_getD, List.getElem?_eq_getElem (show i < (rk e l).length by omega)]
  exact this
theorem mix_q (e : Nat) (n : Int) (W : World) (he : e < 4294967296) : Calls Try.prog 14 #[.int .u32 e, .int .i64 n] W fun x W' => x = .returned (.int .u32 (key e n)) ∧ W' = W := (mix_any e n W he).mono fun x V ⟨h1, h2⟩ => ⟨h1, h2.symm⟩

def PfRel (W : World) (vs : List (Value × List Int)) (m : Nat) (i : Value) (wr : World) : Prop := Kn W wr vs ∧ ∃ k : Nat, i = .int .i64 k ∧ 1 ≤ k ∧ (k ≤ m ∨ k = 1)

set_option maxRecDepth 100000 in
set_option maxHeartbeats 6400000 in
theorem pickFalls_nat (W : World) (e s : Nat) (he : e < 4294967296) (hs : s < 4294967296) : Calls Try.prog 5 #[.int .u32 e, .int .u32 s] W fun e W' => e = .returned (.bool true) ∧ Below W.heap.size W W' := by
  obtain ⟨l, hl⟩ : ∃ l, l = ofs s 24 := ⟨_, rfl⟩
  have hnb : nbs 0 l = true := by rw [hl]; exact ofs_nbs s
  have hlen : l.length ≤ 24 := by rw [hl]; exact ofs_len s 24
  have HW := Lib.hid (works_any W)
  have HO := Lib.hid (fun V => of_any s V hs)
  have HA := Lib.hid (show ∀ (V : World) v, Lst V v l → Calls Try.prog 11 #[.int .u32 e, v] V (LE V (rk e l) 0) from fun V v h => (prank_any stab40 e l v V he h (fun _ => by omega)).mono fun x X h => LE.of (s := (rk e l, 0)) (Below.refl _ _) h (by unfold rkz; rw [if_pos hnb]))
  have HF := Lib.hid (show ∀ k q, k = q + 1 → k < l.length → key e ((rk e l).getD k 0) < key e ((rk e l).getD q 0) from fun k q h1 h2 => rk_at he hnb (by omega) h2)
  have HQ := Lib.hid (fun (n : Int) (V : World) => mix_q e n V he)
  obtain ⟨M, hM⟩ : ∃ M, M = l.length := ⟨_, rfl⟩
  have hM24 : M ≤ 24 := by omega
  rw [← hl] at HO
  have HM := Lib.hid hM
  clear hM hl hnb hlen
  go_enter Try.func5, Try.ntmps5
  go_wp2_with fail
  refine HW.out.mono ?_
  rintro x V1 ⟨rfl, h1⟩
  have HK1 := Lib.hid (show Kn W V1 [] from ⟨h1, by simp⟩)
  clear h1 HW
  go_wp2_with fail
  refine (HO.out V1).mono ?_
  rintro x V2 ⟨v, rfl, h2, h3⟩
  have HK2 := Lib.hid ((HK1.out.later h3).more h2.1)
  clear h2 h3 HK1
  obtain ⟨av, cv, rfl, _, _, _⟩ := HK2.out.head.shape
  rw [← HM.out] at HK2 ⊢
  go_wp2_with fail
  refine (HA.out V2 _ HK2.out.head).mono ?_
  rintro x V3 ⟨v, rfl, h2, h3⟩
  have HK3 := Lib.hid ((HK2.out.later h3).more h2)
  clear h2 h3 HK2
  obtain ⟨aa, ca, rfl, _, _, _⟩ := HK3.out.head.shape
  rw [rk_len, ← HM.out] at HK3 ⊢
  go_wp2_with fail
  refine (HO.out V3).mono ?_
  rintro x V4 ⟨v, rfl, h2, h3⟩
  have HK4 := Lib.hid ((HK3.out.later h3).more h2.1)
  clear h2 h3 HK3
  obtain ⟨ab, cb, rfl, _, _, _⟩ := HK4.out.head.shape
  rw [← HM.out] at HK4 ⊢
  go_wp2_with fail
  obtain ⟨vs, hvs⟩ : ∃ vs, vs = [(Value.slice ab M cb, l), (Value.slice aa M ca, rk e l), (Value.slice av M cv, l)] := ⟨_, rfl⟩
  rw [← hvs] at HK4
  have HS0 := Lib.hid (show PfRel W vs M (.int .i64 1) V4 from ⟨HK4.out, 1, rfl, Nat.le_refl _, .inr rfl⟩)
  have HVS := Lib.hid hvs
  clear hvs HK4
  go_loopw [7] (fun i wr => PfRel W vs M i wr) (fun i _ => M - (intOf i).toNat)
  case atStart => exact HS0.out
  case round =>
    obtain ⟨hK, k, rfl, hk1, hk⟩ := hrel
    by_cases hlt : k < M
    · have hlz : decide ((k : Int) < (M : Int)) = true := decide_eq_true (by omega)
      obtain ⟨q, hq⟩ : ∃ q, k = q + 1 := ⟨k - 1, by omega⟩
      have zq : (k : Int) - 1 = (q : Int) := by omega
      have zw : IntKind.i64.wrap (q : Int) = (q : Int) := by rw [IntKind.wrap_i64]; omega
      have hqM : q < M := by omega
      obtain ⟨x, hx⟩ : ∃ x, x = (rk e l).getD q 0 := ⟨_, rfl⟩
      obtain ⟨y, hy⟩ : ∃ y, y = (rk e l).getD k 0 := ⟨_, rfl⟩
      have hxy := HF.out k q hq (by rw [← HM.out]; exact hlt)
      rw [← hx, ← hy] at hxy
      have cx : ∃ g off, aa = some ⟨g, off, none⟩ ∧ wr.cell? ⟨g, off + q, none⟩ = some (.int .i64 x) ∧ wr.cell? ⟨g, off + k, none⟩ = some (.int .i64 y) := by
        obtain ⟨g, off, c, he, _, _, _, _, hcells⟩ := (hK.live (Value.slice aa M ca, rk e l) (by rw [HVS.out]; exact .tail _ (.head _))).form (by rw [rk_len, ← HM.out]; omega)
        rw [rk_len, ← HM.out] at hcells
        exact ⟨g, off, by simp at he; exact he.1, by rw [hx]; exact (hcells q hqM).1, by rw [hy]; exact (hcells k hlt).1⟩
      obtain ⟨g, off, ha, cx, cy⟩ := cx
      have hQ1 := HQ.out x
      have hQ2 := HQ.out y
      obtain ⟨kx, hkx⟩ : ∃ kx, kx = key e x := ⟨_, rfl⟩
      obtain ⟨ky, hky⟩ : ∃ ky, ky = key e y := ⟨_, rfl⟩
      rw [← hkx] at hQ1 hxy
      rw [← hky] at hQ2 hxy
      have hd : decide ((kx : Int) ≤ (ky : Int)) = false := decide_eq_false (by omega)
      have HREL := Lib.hid (fun q' => show PfRel W vs M (.int .i64 ((k : Int) + 1)) (wr.drewN q') from ⟨hK.drewN q', k + 1, rfl, by omega, .inl (by omega)⟩)
      clear hx hy hK HVS hq hkx hky
      subst ha
      go_wp2_with fail
      go_quiet ((go_at_call 14; first | exact Calls.quiet_of_same (hQ1 _) | exact Calls.quiet_of_same (hQ2 _)))
      go_wp2_with fail
      go_roundw
      case rel => first | exact (HREL.out _) | exact ⟨_, (HREL.out _), rfl⟩ | ((repeat apply Exists.intro); exact ⟨(HREL.out _), rfl⟩)
      case measure => simp [intOf]; omega
    · have hlz : decide ((k : Int) < (M : Int)) = false := decide_eq_false (by omega)
      have HB2 := Lib.hid hK.bel
      clear hK
      go_wp2_with fail
      go_returns
      exact ⟨rfl, HB2.out⟩
theorem pickFalls_walk (e s : Int) (W : World) (he : 0 ≤ e ∧ e ≤ 4294967295) (hs : 0 ≤ s ∧ s ≤ 4294967295) : Calls Try.prog 5 #[.int .u32 e, .int .u32 s] W fun e W' => e = .returned (.bool true) ∧ Below W.heap.size W W' := by
  obtain ⟨e, rfl⟩ : ∃ k : Nat, e = k := ⟨e.toNat, by omega⟩
  obtain ⟨s, rfl⟩ : ∃ k : Nat, s = k := ⟨s.toNat, by omega⟩
  exact pickFalls_nat W e s (by omega) (by omega)

end Go.Proofs.Ytmjaompepchieaa
