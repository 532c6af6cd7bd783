/- The walk of the law WireSums. -/
import Derived.Test.YtibicjcnfdhffaaWireOpen
import Derived.Test.YtibicjcnfdhffaaWireWorks
set_option linter.unusedSimpArgs false
set_option linter.unusedVariables false
namespace Go.Proofs.Ytibicjcnfdhffaa
open Go.RowKit

set_option maxRecDepth 100000 in
set_option maxHeartbeats 1000000 in
theorem wireSums_walk (A : Option Addr) (c : Nat) (ss : List ByteArray) (w : World) (hA : Strs w A ss) (hl : ss.length ≤ 140737488351232) (hss : ∀ s ∈ ss, s.size ≤ 140737488351232) :
    Calls Try.prog 6 #[.slice A ss.length c] w fun e w' => e = .returned (.bool true) ∧ Below w.heap.size w w' := by
  have hS : Hid (Small ss) := fun s hs => Nat.le_trans (hss s hs) (by omega)
  have hS' := Lib.hid hss
  have hA' := Lib.hid hA
  clear hss hA
  go_enter Try.func6, Try.ntmps6
  go_wp2_with fail
  refine (sum_any A c ss _ (by omega) hA'.out hS.out).mono ?_
  rintro e w' ⟨rfl, rfl⟩
  go_wp2_with fail
  refine (rsum_any A c ss _ (by omega) hA'.out hS.out).mono ?_
  rintro e w' ⟨rfl, rfl⟩
  go_wp2_with fail
  go_loopw [3] (fun i wr => ∃ k : Nat, k ≤ ss.length ∧ k ≤ 16 ∧ i = .int .i64 k ∧ Below w.heap.size w wr) (fun i _ => ss.length - (intOf i).toNat)
  case atStart => exact ⟨0, Nat.zero_le _, Nat.zero_le _, rfl, Below.refl _ _⟩
  case round =>
    obtain ⟨k, hk, hk16, rfl, hb⟩ := hrel
    by_cases hlt : k < ss.length
    · by_cases h16 : k < 16
      · obtain ⟨ad, hAd, hcell⟩ := (hA'.out.later hb) k hlt
        have hsz := hS'.out ss[k] (List.getElem_mem hlt)
        obtain ⟨s, hs⟩ : ∃ s, s = ss[k] := ⟨_, rfl⟩
        rw [← hs] at hcell hsz
        clear hs
        have hAk := hA'
        clear hA'
        subst hAd
        go_wp2_with fail
        refine (open_any s _ (by omega)).mono ?_
        rintro e w1 ⟨rfl, hb1⟩
        have hcell1 := cell_later hb1 hcell
        go_wp2_with fail
        refine (ropen_any s _ (by omega)).mono ?_
        rintro e w2 ⟨rfl, hb2⟩
        have hcell2 := cell_later hb2 hcell1
        go_wp2_with fail
        have hb12 := (hb1.trans (hb2.mono hb1.size))
        refine wp_region_ord [(0, true), (1, true), (2, true), (3, true), (4, true), (5, true), (6, true), (7, true), (8, true), (9, true), (10, true), (11, true), (12, true), (14, true), (15, true), (16, true), (17, true), (13, false), (18, false), (19, true), (20, true)] (fun W => W.cell? (ad.add k) = some (.string s)) (by kernel_rfl) (by kernel_rfl) (by decide) (by kernel_rfl) (fun d _ _ _ _ h => by cases d <;> exact h) hcell2 ?_
        iterate 17 (apply wpOrd_look rfl (by kernel_rfl); (intro W hS; go_simp; (try go_bits); rfl); (try simp only [Act.put, List.setIfInBounds_toArray, List.set_cons_succ, List.set_cons_zero]))
        apply wpOrd_do rfl (by kernel_rfl)
        intro K hK
        go_wp2_with (go_at_call 21; refine (seal_any s _ (by omega)).mono ?_; rintro e w3 ⟨rfl, hb3⟩; have hcell3 := cell_later hb3 hcell2)
        refine hK _ _ hcell3 ?_
        clear hK K
        apply wpOrd_do rfl (by kernel_rfl)
        intro K hK
        go_wp2_with (go_at_call 22; refine (rseal_any s _ (by omega)).mono ?_; rintro e w4 ⟨rfl, hb4⟩; have hcell4 := cell_later hb4 hcell3)
        refine hK _ _ hcell4 ?_
        clear hK K
        iterate 2 (apply wpOrd_look rfl (by kernel_rfl); (intro W hS; go_simp; (try go_bits); rfl); (try simp only [Act.put, List.setIfInBounds_toArray, List.set_cons_succ, List.set_cons_zero]))
        refine wpOrd_nil ?_
        have hbb : Below w.heap.size w w4 := by
          have e1 := hb.size
          have e2 := hb1.size
          have e3 := hb2.size
          have e4 := hb3.size
          simp only [World.size_drew] at e4
          exact ((hb.trans (hb1.mono e1)).trans (hb2.mono (by omega))).drew.trans ((hb3.mono (by simp only [World.size_drew]; omega)).trans (hb4.mono (by omega)))
        clear hb hb1 hb2 hb3 hb4 hb12 hcell hcell1 hcell2 hcell3 hcell4 hAk
        go_wp2_with fail
        go_roundw
        case rel => exact ⟨k + 1, by omega, by omega, by go_num, hbb⟩
        case measure => simp [intOf]; omega
      · go_wp2_with fail
        refine (works_any _).mono ?_
        rintro e w1 ⟨rfl, hb1⟩
        go_wp2_with fail
        go_ret
        exact ⟨rfl, hb.trans (hb1.mono hb.size)⟩
    · go_wp2_with fail
      refine (works_any _).mono ?_
      rintro e w1 ⟨rfl, hb1⟩
      go_wp2_with fail
      go_ret
      exact ⟨rfl, hb.trans (hb1.mono hb.size)⟩

end Go.Proofs.Ytibicjcnfdhffaa
