/- Contract of the law's own example: it works. -/
import Derived.Test.YtmjaompepchieaaPkH
set_option linter.unusedSimpArgs false
set_option linter.unusedVariables false
namespace Go.Proofs.Ytmjaompepchieaa
open Go.RowKit Go.ChangeShapes Go.WideShapes Go.Sort

def row123 : Obj := .cells #[.int .i64 1, .int .i64 2, .int .i64 3] 3
set_option maxRecDepth 100000 in
set_option maxHeartbeats 1600000 in
theorem works_any (W : World) : Calls Try.prog 16 #[] W fun x W' => x = .returned (.bool true) ∧ Below W.heap.size W W' := by
  have HR := Lib.hid (fun (V : World) => prank_any stab20 4 [1, 2, 3] _ (V.alloc row123) (by decide) (Lst.new V [1, 2, 3] (by decide)) (fun _ => by decide))
  have HC := Lib.hid (fun (V : World) => choose_any 0 [1, 2, 3] _ (V.alloc row123) (by decide) (Lst.new V [1, 2, 3] (by decide)))
  have HM := Lib.hid (fun (V : World) => mix_any 9 5 V (by decide))
  rw [rkz4] at HR
  rw [chz0] at HC
  rw [key95] at HM
  have HA := Lib.hid (fun (V : World) => (show Below V.heap.size V (V.alloc row123) from (Below.refl _ _).alloc (Nat.le_refl _) _))
  have HN := Lib.hid (fun (V : World) => Lst.new V [1, 2, 3] (by decide))
  go_enter Try.func16, Try.ntmps16
  go_wp2_with fail
  refine (HR.out W).mono ?_
  rintro x V ⟨v, rfl, h1, h2⟩
  have HB := Lib.hid ((HA.out W).trans (h2.mono (HA.out W).size))
  have HO := Lib.hid h1.1
  clear h1 h2
  obtain ⟨a, cap, rfl, _⟩ := HO.out.shape
  go_wp2_with fail
  refine (HC.out V).mono ?_
  rintro x U ⟨rfl, hG⟩
  have HB2 := Lib.hid (HB.out.trans (((HA.out V).trans (hG.below.mono (HA.out V).size)).mono HB.out.size))
  have HO2 := Lib.hid (HO.out.later ((HA.out V).trans (hG.below.mono (HA.out V).size)))
  clear hG
  have HS := Lib.hid (same_any [1, 2, 3] [1, 2, 3] _ _ (U.alloc row123) (HO2.out.later (HA.out U)) (HN.out U))
  have HB3 := Lib.hid (HB2.out.trans ((HA.out U).mono HB2.out.size))
  go_wp2_with fail
  refine HS.out.mono ?_
  rintro x U2 ⟨rfl, q, rfl⟩
  have HB4 := Lib.hid (HB3.out.trans (show Below W.heap.size (U.alloc row123) ((U.alloc row123).drewN q) from ⟨rfl, rfl, rfl, Nat.le_refl _, fun _ _ => rfl⟩))
  generalize (U.alloc row123).drewN q = U3 at *
  go_wp2_with fail
  refine (HM.out _).mono ?_
  rintro x w ⟨rfl, rfl⟩
  go_wp2_with fail
  go_returns
  exact ⟨rfl, HB4.out⟩

end Go.Proofs.Ytmjaompepchieaa
