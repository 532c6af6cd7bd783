/- Contracts of the two Chooses. -/
import Derived.Test.YtmjaompepchieaaPkC
set_option linter.unusedSimpArgs false
set_option linter.unusedVariables false
namespace Go.Proofs.Ytmjaompepchieaa
open Go.RowKit Go.ChangeShapes Go.WideShapes Go.Sort

/-- Which neighbour is chosen, and the error. -/
def chz (e : Nat) (l : List Int) : Int × Int := if nbs 0 l = true then (if l.length = 0 then (0, 6) else (bst e l, 0)) else (0, 2)

theorem choose_any (e : Nat) (l : List Int) (v : Value) (W : World) (he : e < 4294967296) (h : Lst W v l) : Calls Try.prog 9 #[.int .u32 e, v] W fun x W' => x = .returned (.tuple #[.int .i64 (chz e l).1, .int .i64 (chz e l).2]) ∧ Gr W W' := by
  have HN := Lib.hid (nbs_any l v W h)
  have HL := Lib.hid h
  obtain ⟨a, cap, rfl, hs, _, _⟩ := h.shape
  have HG0 := Lib.hid (Gr.refl W)
  clear h
  cases hn : nbs 0 l with
  | false =>
    have HE := Lib.hid (show chz e l = (0, 2) by unfold chz; rw [hn]; rfl)
    go_enter Try.func9, Try.ntmps9
    go_wp2_with fail
    rw [hn] at HN
    refine HN.out.mono ?_
    rintro x w ⟨rfl, rfl⟩
    clear hn
    go_wp2_with fail
    go_returns
    exact ⟨by rw [HE.out]; rfl, HG0.out⟩
  | true =>
    by_cases h0 : l.length = 0
    · have HE := Lib.hid (show chz e l = (0, 6) by unfold chz; rw [hn, if_pos rfl, if_pos h0])
      go_enter Try.func9, Try.ntmps9
      rw [h0]
      rw [h0, hn] at HN
      go_wp2_with fail
      refine HN.out.mono ?_
      rintro x w ⟨rfl, rfl⟩
      clear hn h0
      go_wp2_with fail
      go_returns
      exact ⟨by rw [HE.out]; rfl, HG0.out⟩
    · have HE := Lib.hid (show chz e l = (bst e l, 0) by unfold chz; rw [hn, if_pos rfl, if_neg h0])
      have HB := Lib.hid (best_any e l _ W he HL.out (by omega) (nbs_rise l 0 hn).1)
      have hz : ((l.length : Int) == 0) = false := by rw [beq_eq_false_iff_ne]; omega
      have er := enter_rank
      unfold saltV at HB
      go_enter Try.func9, Try.ntmps9
      go_wp2_with fail
      rw [hn] at HN
      refine HN.out.mono ?_
      rintro x w ⟨rfl, rfl⟩
      clear hn h0
      go_wp2_with fail
      refine HB.out.mono ?_
      rintro x w ⟨rfl, hG⟩
      have HG := Lib.hid hG
      clear hG
      go_wp2_with fail
      go_returns
      exact ⟨by rw [HE.out]; rfl, HG.out⟩

theorem rchoose_any (e : Nat) (l : List Int) (v : Value) (W : World) (he : e < 4294967296) (h : Lst W v l) : Calls Try.prog 10 #[.int .u32 e, v] W fun x W' => x = .returned (.tuple #[.int .i64 (chz e l).1, .int .i64 (chz e l).2]) ∧ ∃ q, W' = W.drewN q := by
  have HN := Lib.hid (rnbs_any l v W h)
  have HL := Lib.hid h
  obtain ⟨a, cap, rfl, hs, _, _⟩ := h.shape
  clear h
  cases hn : nbs 0 l with
  | false =>
    have HE := Lib.hid (show chz e l = (0, 2) by unfold chz; rw [hn]; rfl)
    go_enter Try.func10, Try.ntmps10
    go_wp2_with fail
    rw [hn] at HN
    refine HN.out.mono ?_
    rintro x w ⟨rfl, hq⟩
    have HQ := Lib.hid hq
    clear hn hq
    go_wp2_with fail
    go_returns
    exact ⟨by rw [HE.out]; rfl, HQ.out⟩
  | true =>
    by_cases h0 : l.length = 0
    · have HE := Lib.hid (show chz e l = (0, 6) by unfold chz; rw [hn, if_pos rfl, if_pos h0])
      go_enter Try.func10, Try.ntmps10
      rw [h0]
      rw [h0, hn] at HN
      go_wp2_with fail
      refine HN.out.mono ?_
      rintro x w ⟨rfl, hq⟩
      have HQ := Lib.hid hq
      clear hn h0 hq
      go_wp2_with fail
      go_returns
      exact ⟨by rw [HE.out]; rfl, HQ.out⟩
    · have HE := Lib.hid (show chz e l = (bst e l, 0) by unfold chz; rw [hn, if_pos rfl, if_neg h0])
      have HB := Lib.hid (fun q => rbest_any e l _ (W.drewN q) he (HL.out.drewN q) (by omega))
      have hz : ((l.length : Int) == 0) = false := by rw [beq_eq_false_iff_ne]; omega
      go_enter Try.func10, Try.ntmps10
      go_wp2_with fail
      rw [hn] at HN
      refine HN.out.mono ?_
      rintro x w ⟨rfl, q, rfl⟩
      clear hn h0
      go_wp2_with fail
      refine (HB.out q).mono ?_
      rintro x w ⟨rfl, hG⟩
      have HG := Lib.hid hG
      clear hG
      go_wp2_with fail
      go_returns
      exact ⟨by rw [HE.out]; rfl, q, HG.out.symm⟩

end Go.Proofs.Ytmjaompepchieaa
