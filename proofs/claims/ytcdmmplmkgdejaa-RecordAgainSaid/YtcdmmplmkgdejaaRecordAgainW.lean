/- The walk of the law RecordAgain. -/
import Derived.Test.YtcdmmplmkgdejaaRecX
set_option linter.unusedSimpArgs false
set_option linter.unusedVariables false
namespace Go.Proofs.Ytcdmmplmkgdejaa
open Go.RowKit Go.ChangeShapes Go.WideShapes

set_option maxRecDepth 100000 in
set_option maxHeartbeats 1600000 in
theorem again_yes (b : ByteArray) (r : Rc) (x : St) (w : World) (hb : b.size ≤ 140737488355328) (hr : r = decR b.data.toList) (hx : x = decS b.data.toList) (hd : (0 : Int) = decE b.data.toList) (hg : (4 : Int) = decSE b.data.toList)
    (hok : r.ok) (hc : r.chk = true) (he : bs r.enc = b) :
    Calls Try.prog 6 #[.string b] w fun e w' => e = .returned (.bool true) ∧ Below w.heap.size w w' := by
  have HD : Hid (∀ W, _) := Lib.hid fun W => decode_cells b W hb r 0 hr hd
  have HS : Hid (∀ W, _) := Lib.hid fun W => decst_cells b W hb x 4 hx hg
  have HE : Hid (∀ sa sc W, AdjsIn W sa r.adjs → Calls Try.prog 16 #[.agg #[.int .i64 r.org, .int .u32 r.ep, .int .u32 r.sq, .int .i64 r.clm, .bool r.ing, .slice sa r.adjs.length sc]] W fun e W' => e = .returned (.tuple #[.string b, .int .i64 0]) ∧ Below W.heap.size W W') := Lib.hid fun sa sc W hA => by
    have := encode_okay r sa sc W hA hok hc
    rwa [he] at this
  clear hb hr hx hd hg hok hc he
  go_enter Try.func6, Try.ntmps6
  go_wp2_with fail
  refine (works_any _).mono ?_
  rintro e W1 ⟨rfl, hb1⟩
  have HB1 := Lib.hid hb1
  clear hb1
  go_wp2_with fail
  refine (HD.out _).mono ?_
  rintro e W2 ⟨sa, sc, rfl, hro, hb2⟩
  obtain ⟨X, hX⟩ : ∃ X, X = W2.alloc (.cells #[.int .i64 r.org, .int .u32 r.ep, .int .u32 r.sq, .int .i64 r.clm, .bool r.ing, .slice sa r.adjs.length sc] 25) := ⟨_, rfl⟩
  have hbX : Below W2.heap.size W2 X := by rw [hX]; exact (Below.refl _ _).alloc (Nat.le_refl _) _
  have HB2 := Lib.hid (HB1.out.trans (hb2.mono HB1.out.size))
  have HAX := Lib.hid (hro.adjs.later hbX)
  have HBX := Lib.hid (HB2.out.trans (hbX.mono HB2.out.size))
  have HX := Lib.hid hX
  clear hro hb2 hbX hX
  go_wp2_with fail
  try rw [← HX.out]
  refine (HE.out sa sc X HAX.out).mono ?_
  rintro e Y ⟨rfl, hbY⟩
  have HBY := Lib.hid (HBX.out.trans (hbY.mono HBX.out.size))
  clear hbY
  go_wp2_with fail
  refine (HS.out _).mono ?_
  rintro e Z ⟨rfl, hbZ⟩
  have HBZ := Lib.hid (HBY.out.trans (hbZ.mono HBY.out.size))
  clear hbZ
  go_wp2_with fail
  have hbf := HBZ.out.alloc HBZ.out.size (.cells #[.int .i64 x.org, .int .u32 x.ep, .int .u32 x.sq] 39)
  go_returns
  exact ⟨rfl, hbf⟩

set_option maxRecDepth 100000 in
set_option maxHeartbeats 1600000 in
theorem again_stamp (b : ByteArray) (r : Rc) (x : St) (w : World) (hb : b.size ≤ 140737488355328) (hr : r = decR b.data.toList) (hx : x = decS b.data.toList) (hd : (4 : Int) = decE b.data.toList) (hg : (0 : Int) = decSE b.data.toList)
    (hok : x.ok) (hc : x.may = true) (he : bs x.enc = b) :
    Calls Try.prog 6 #[.string b] w fun e w' => e = .returned (.bool true) ∧ Below w.heap.size w w' := by
  have HD : Hid (∀ W, _) := Lib.hid fun W => decode_cells b W hb r 4 hr hd
  have HS : Hid (∀ W, _) := Lib.hid fun W => decst_cells b W hb x 0 hx hg
  have HE : Hid (∀ W, Calls Try.prog 24 #[.agg #[.int .i64 x.org, .int .u32 x.ep, .int .u32 x.sq]] W fun e W' => e = .returned (.tuple #[.string b, .int .i64 0]) ∧ Below W.heap.size W W') := Lib.hid fun W => by
    have := encst_okay x W hok hc
    rwa [he] at this
  clear hb hr hx hd hg hok hc he
  go_enter Try.func6, Try.ntmps6
  go_wp2_with fail
  refine (works_any _).mono ?_
  rintro e W1 ⟨rfl, hb1⟩
  have HB1 := Lib.hid hb1
  clear hb1
  go_wp2_with fail
  refine (HD.out _).mono ?_
  rintro e W2 ⟨sa, sc, rfl, hro, hb2⟩
  have HB2 := Lib.hid ((HB1.out.trans (hb2.mono HB1.out.size)).alloc (HB1.out.trans (hb2.mono HB1.out.size)).size (.cells #[.int .i64 r.org, .int .u32 r.ep, .int .u32 r.sq, .int .i64 r.clm, .bool r.ing, .slice sa r.adjs.length sc] 25))
  clear hro hb2
  go_wp2_with fail
  refine (HS.out _).mono ?_
  rintro e Z ⟨rfl, hbZ⟩
  have HBZ := Lib.hid ((HB2.out.trans (hbZ.mono HB2.out.size)).alloc (HB2.out.trans (hbZ.mono HB2.out.size)).size (.cells #[.int .i64 x.org, .int .u32 x.ep, .int .u32 x.sq] 39))
  clear hbZ
  go_wp2_with fail
  refine (HE.out _).mono ?_
  rintro e Y ⟨rfl, hbY⟩
  have HBY := Lib.hid (HBZ.out.trans (hbY.mono HBZ.out.size))
  clear hbY
  go_wp2_with fail
  go_returns
  exact ⟨rfl, HBY.out⟩

set_option maxRecDepth 100000 in
set_option maxHeartbeats 1600000 in
theorem again_none (b : ByteArray) (r : Rc) (x : St) (w : World) (hb : b.size ≤ 140737488355328) (hr : r = decR b.data.toList) (hx : x = decS b.data.toList) (hd : (4 : Int) = decE b.data.toList) (hg : (4 : Int) = decSE b.data.toList) :
    Calls Try.prog 6 #[.string b] w fun e w' => e = .returned (.bool true) ∧ Below w.heap.size w w' := by
  have HD : Hid (∀ W, _) := Lib.hid fun W => decode_cells b W hb r 4 hr hd
  have HS : Hid (∀ W, _) := Lib.hid fun W => decst_cells b W hb x 4 hx hg
  clear hb hr hx hd hg
  go_enter Try.func6, Try.ntmps6
  go_wp2_with fail
  refine (works_any _).mono ?_
  rintro e W1 ⟨rfl, hb1⟩
  have HB1 := Lib.hid hb1
  clear hb1
  go_wp2_with fail
  refine (HD.out _).mono ?_
  rintro e W2 ⟨sa, sc, rfl, hro, hb2⟩
  have HB2 := Lib.hid ((HB1.out.trans (hb2.mono HB1.out.size)).alloc (HB1.out.trans (hb2.mono HB1.out.size)).size (.cells #[.int .i64 r.org, .int .u32 r.ep, .int .u32 r.sq, .int .i64 r.clm, .bool r.ing, .slice sa r.adjs.length sc] 25))
  clear hro hb2
  go_wp2_with fail
  refine (HS.out _).mono ?_
  rintro e Z ⟨rfl, hbZ⟩
  have HBZ := Lib.hid ((HB2.out.trans (hbZ.mono HB2.out.size)).alloc (HB2.out.trans (hbZ.mono HB2.out.size)).size (.cells #[.int .i64 x.org, .int .u32 x.ep, .int .u32 x.sq] 39))
  clear hbZ
  go_wp2_with fail
  go_returns
  exact ⟨rfl, HBZ.out⟩

theorem recordAgain_walk (b : ByteArray) (w : World) (hb0 : b.size ≤ 140737488351232) :
    Calls Try.prog 6 #[.string b] w fun e w' => e = .returned (.bool true) ∧ Below w.heap.size w w' := by
  have hb : b.size ≤ 140737488355328 := by omega
  by_cases hd : decOk b.data.toList = true
  · have hs := decS_no (l := b.data.toList) (by have := decOk_len hd; omega)
    refine again_yes b _ _ w hb rfl rfl (by unfold decE; rw [if_pos hd]) (by unfold decSE; rw [hs]; rfl) (decR_ok _) ?_ ?_
    · unfold decR; rw [if_pos hd]; exact decOk_chk hd
    · unfold decR; rw [if_pos hd, enc_dec hd]; exact bs_list b
  · by_cases hs : decSOk b.data.toList = true
    · have hs' := hs
      simp only [decSOk, Bool.and_eq_true, decide_eq_true_eq] at hs'
      refine again_stamp b _ _ w hb rfl rfl (by unfold decE; rw [if_neg hd]) (by unfold decSE; rw [if_pos hs]) ?_ ?_ ?_
      · unfold decS; rw [if_pos hs]; exact candS_ok _
      · unfold decS; rw [if_pos hs]; exact hs'.2
      · unfold decS; rw [if_pos hs, St.enc_dec hs'.1]; exact bs_list b
    · exact again_none b _ _ w hb rfl rfl (by unfold decE; rw [if_neg hd]) (by unfold decSE; rw [if_neg hs])

end Go.Proofs.Ytcdmmplmkgdejaa
