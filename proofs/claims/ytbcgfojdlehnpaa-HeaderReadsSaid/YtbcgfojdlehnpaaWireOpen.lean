/- Contracts of Open, the program's and the reference's. -/
import Derived.Test.YtbcgfojdlehnpaaWireSeal
import Derived.Test.YtbcgfojdlehnpaaRegion
set_option linter.unusedSimpArgs false
set_option linter.unusedVariables false
namespace Go.Proofs.Ytbcgfojdlehnpaa
open Go.RowKit

set_option maxHeartbeats 400000 in
theorem open_short (b : ByteArray) (w : World) (hb : b.size < 2) :
    Calls Try.prog 27 #[.string b] w fun e w' => e = .returned (.tuple #[.string (bs []), .int .i64 4]) ∧ w = w' := by
  go_enter Try.func27, Try.ntmps27
  go_wp2_with fail
  go_ret2
  exact ⟨rfl, rfl⟩

set_option maxHeartbeats 400000 in
theorem open_long (b : ByteArray) (n : Nat) (w : World) (hn : b.size = n + 2) (hb : b.size ≤ 1125899906842624) :
    Calls Try.prog 27 #[.string b] w fun e w' => e = .returned (.tuple #[.string (openS b), .int .i64 (openE b)]) ∧ Below w.heap.size w w' := by
  have hn0 : n ≤ b.size := by omega
  have hn1 : n < b.size := by omega
  have hq1 : (0 : Int) ≤ (n : Int) + 1 := by omega
  have hq2 : (n : Int) + 1 < (b.size : Int) := by omega
  have hn2 : n + 1 < b.size := by omega
  have hn3 : (b.size : Int) - 2 = (n : Int) := by omega
  have H := Lib.hid hn
  clear hn
  go_enter Try.func27, Try.ntmps27
  go_wp2_with fail
  have hx : (b.extract 0 n).size ≤ 1125899906842624 := by rw [ByteArray.size_extract]; omega
  have hS := Lib.hid (small_one hx)
  have hA' : Hid (Strs (w.alloc (.cells #[.string (b.extract 0 n)] 9)).drew (some ⟨w.heap.size, 0, none⟩) [b.extract 0 n]) := strs_lit w 9 [b.extract 0 n]
  clear hx
  refine wp_region_ord [(0, true), (1, true), (2, true), (5, true), (6, true), (7, true), (8, true), (9, true), (10, true), (11, true), (12, true), (13, true), (14, true), (15, true), (3, false), (4, false), (16, true)] (fun _ => True) (by kernel_rfl) (by kernel_rfl) (by decide) (by kernel_rfl) (fun d _ _ _ _ h => by cases d <;> exact h) trivial ?_
  iterate 14 (apply wpOrd_look rfl (by kernel_rfl); (intro W hS; go_simp; (try go_bits); rfl); (try simp only [Act.put, List.setIfInBounds_toArray, List.set_cons_succ, List.set_cons_zero]))
  apply wpOrd_do rfl (by kernel_rfl)
  intro K hK
  go_simp
  refine hK _ _ trivial ?_
  clear hK K
  apply wpOrd_do rfl (by kernel_rfl)
  intro K hK
  go_wp2_with (go_at_call 46; refine (sum_at _ (some ⟨w.heap.size, 0, none⟩) [b.extract 0 n] _ rfl hA'.out (by show 1 ≤ _; omega) hS.out).mono ?_; rintro e w' ⟨rfl, rfl⟩)
  refine hK _ _ trivial ?_
  clear hK K
  rw [two_go, lastTwo_eq H.out hn1 hn2, sumL_one]
  have hd := open_cases H.out
  generalize sumB (b.extract 0 n) = s at *
  generalize lastTwo b = t at *
  have hlast : Below w.heap.size w (w.alloc (.cells #[.string (b.extract 0 n)] 9)).drew := ((Below.refl _ _).alloc (Nat.le_refl _) _).drew
  have HL := Lib.hid hlast
  clear hlast
  by_cases hst : s = t
  · have HD := Lib.hid (hd.1 hst)
    clear hd
    subst hst
    apply wpOrd_look rfl (by kernel_rfl)
    · intro W _; go_simp; rfl
    refine wpOrd_nil ?_
    go_wp2_with fail
    go_ret2
    refine ⟨?_, HL.out⟩
    rw [HD.out.1, HD.out.2]
    rfl
  · have HD := Lib.hid (hd.2 hst)
    clear hd
    have hbne : ((s : Int) != (t : Int)) = true := by rw [bne_iff_ne]; omega
    apply wpOrd_look rfl (by kernel_rfl)
    · intro W _; go_simp; rfl
    refine wpOrd_nil ?_
    go_wp2_with fail
    go_ret2
    refine ⟨?_, HL.out⟩
    rw [HD.out.1, HD.out.2]
    rfl

theorem open_any (b : ByteArray) (w : World) (hb : b.size ≤ 1125899906842624) :
    Calls Try.prog 27 #[.string b] w fun e w' => e = .returned (.tuple #[.string (openS b), .int .i64 (openE b)]) ∧ Below w.heap.size w w' := by
  by_cases h : b.size < 2
  · refine (open_short b w h).mono fun e w' ⟨h1, h2⟩ => ⟨?_, h2 ▸ Below.refl _ _⟩
    rw [h1, openS, openE, if_pos h, if_pos h]
  · exact open_long b (b.size - 2) w (by omega) hb

set_option maxHeartbeats 400000 in
theorem ropen_any (b : ByteArray) (w : World) (hb : b.size ≤ 140737488355000) :
    Calls Try.prog 31 #[.string b] w fun e w' => e = .returned (.tuple #[.string (openS b), .int .i64 (openE b)]) ∧ Below w.heap.size w w' := by
  by_cases h : b.size < 2
  · go_enter Try.func31, Try.ntmps31
    go_wp2_with fail
    go_ret2
    refine ⟨?_, Below.refl _ _⟩
    rw [openS, openE, if_pos h, if_pos h]
    rfl
  · obtain ⟨n, hn⟩ : ∃ n, b.size = n + 2 := ⟨b.size - 2, by omega⟩
    have hn3 : (b.size : Int) - 2 = (n : Int) := by omega
    have hn0 : n ≤ b.size := by omega
    have hx : (b.extract 0 n).size ≤ 140737488355000 := by rw [ByteArray.size_extract]; omega
    have hd := open_cases hn
    have hsl := seal_same hn
    have H := Lib.hid hn
    have HS := Lib.hid hsl
    clear hn h hsl
    have HD := Lib.hid hd
    clear hd
    go_enter Try.func31, Try.ntmps31
    go_wp2_with fail
    refine (rseal_any (b.extract 0 n) _ hx).mono ?_
    rintro e w1 ⟨rfl, hb1⟩
    by_cases hq : sumB (b.extract 0 n) = lastTwo b
    · have ht : ((sealB (b.extract 0 n)).toList == b.toList) = true := by rw [HS.out.1 hq]; simp
      have HQ := Lib.hid hq
      clear hq
      go_wp2_with fail
      go_ret2
      refine ⟨?_, hb1⟩
      rw [(HD.out.1 HQ.out).1, (HD.out.1 HQ.out).2]
      rfl
    · have ht : ((sealB (b.extract 0 n)).toList == b.toList) = false := HS.out.2 hq
      have HQ := Lib.hid hq
      clear hq
      go_wp2_with fail
      go_ret2
      refine ⟨?_, hb1⟩
      rw [(HD.out.2 HQ.out).1, (HD.out.2 HQ.out).2]
      rfl

end Go.Proofs.Ytbcgfojdlehnpaa
