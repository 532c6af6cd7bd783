/- Contracts of the reference's record: the record and the stamp of bytes. -/
import Derived.Test.YtcdmmplmkgdejaaRecL
import Derived.Test.YtcdmmplmkgdejaaWireRTake
set_option linter.unusedSimpArgs false
set_option linter.unusedVariables false
namespace Go.Proofs.Ytcdmmplmkgdejaa
open Go.RowKit Go.ChangeShapes Go.WideShapes

theorem rtk_any (s : ByteArray) (p m : Nat) (W : World) (hp : p ≤ 100000) (hs : s.size ≤ 140737488355328) :
    Calls Try.prog 30 #[.string s, .int .i64 p, .int .i64 m] W fun e W' => e = .returned (.int .u64 (tk s p m : Nat)) ∧ W = W' := by
  have HT := Lib.hid (rtake_any s p m W (by omega) hs)
  go_enter Try.func30, Try.ntmps30
  go_wp2_with fail
  refine HT.out.mono ?_
  rintro e w ⟨rfl, rfl⟩
  go_wp2_with fail
  go_returns
  exact ⟨rfl, rfl⟩

theorem bs_ne_iff {l : List UInt8} {s : ByteArray} : (bs l = s) ↔ l = s.data.toList := by
  constructor
  · rintro rfl; rfl
  · rintro rfl; exact bs_of s
theorem str_yes {a b : ByteArray} (h : a = b) : (a.toList == b.toList) = true := by rw [h, beq_iff_eq]
theorem str_no {a b : ByteArray} (h : a ≠ b) : (a.toList == b.toList) = false := by
  rw [beq_eq_false_iff_ne, ByteArray.toList_eq, ByteArray.toList_eq]
  intro he
  exact h (bytes_inj he)
theorem refS_ok {s : ByteArray} : ((tkS s).may && decide (bs (tkS s).enc = s)) = decSOk s.data.toList ∧ (decSOk s.data.toList = true → tkS s = candS s.data.toList) := by
  by_cases h9 : s.size = 9
  · have h := tkS_in (s := s) (by omega)
    have he : bs (candS s.data.toList).enc = s := by rw [St.enc_dec (by rw [size_len]; exact h9), bs_of]
    rw [h, he]
    refine ⟨?_, fun _ => rfl⟩
    unfold decSOk
    rw [size_len, decide_eq_true h9, decide_eq_true rfl, Bool.true_and, Bool.and_true]
  · have h0 : decSOk s.data.toList = false := by unfold decSOk; rw [size_len, decide_eq_false h9, Bool.false_and]
    rw [h0]
    refine ⟨?_, fun h => by cases h⟩
    have : ¬ bs (tkS s).enc = s := fun h => h9 (by rw [← h, bs_size, St.enc_len])
    rw [decide_eq_false this, Bool.and_false]

set_option maxRecDepth 100000 in
set_option maxHeartbeats 3200000 in
theorem rdecst_any (s : ByteArray) (W : World) (hs : s.size ≤ 140737488355328) :
    Calls Try.prog 27 #[.string s] W fun e W' => e = .returned (.tuple #[(decS s.data.toList).ag, .int .i64 (decSE s.data.toList)]) ∧ Below W.heap.size W W' := by
  obtain ⟨W1, hW1⟩ : ∃ W1, W1 = W.alloc (.cells #[.int .i64 0, .int .u32 0, .int .u32 0] 39) := ⟨_, rfl⟩
  have hb1 : Below W.heap.size W W1 := by rw [hW1]; exact (Below.refl _ _).alloc (Nat.le_refl _) _
  have hz : BoxS W.heap.size St.zero W1 := by rw [hW1]; exact heap_alloc_new _ _
  have hsz1 : W1.heap.size = W.heap.size + 1 := by rw [hW1, World.size_alloc]
  obtain ⟨t0, ht0⟩ : ∃ t, t = tk s 0 1 := ⟨_, rfl⟩
  obtain ⟨t1, ht1⟩ : ∃ t, t = tk s 1 4 := ⟨_, rfl⟩
  obtain ⟨t2, ht2⟩ : ∃ t, t = tk s 5 4 := ⟨_, rfl⟩
  have b0 : t0 < 256 := by rw [ht0]; exact tk_lt s 0 (by omega)
  have b1 : t1 < 4294967296 := by rw [ht1]; exact tk_lt s 1 (m := 4) (by omega)
  have b2 : t2 < 4294967296 := by rw [ht2]; exact tk_lt s 5 (m := 4) (by omega)
  have w0 : IntKind.i64.wrap (t0 : Int) = (t0 : Int) := IntWalk.i64_in _ (by omega)
  have w1 : IntKind.u32.wrap (t1 : Int) = (t1 : Int) := IntWalk.u32_in _ (by omega)
  have w2 : IntKind.u32.wrap (t2 : Int) = (t2 : Int) := IntWalk.u32_in _ (by omega)
  have HT := Lib.hid (show tkS s = ⟨(t0 : Nat), t1, t2⟩ by unfold tkS; rw [← ht0, ← ht1, ← ht2])
  have HT0 := Lib.hid ht0
  have HT1 := Lib.hid ht1
  have HT2 := Lib.hid ht2
  have HW1 := Lib.hid hW1
  obtain ⟨X, hX⟩ : ∃ X, X = W1.alloc (.cells #[.int .i64 (t0 : Int), .int .u32 (t1 : Int), .int .u32 (t2 : Int)] 39) := ⟨_, rfl⟩
  have hbX : Below W1.heap.size W1 X := by rw [hX]; exact (Below.refl _ _).alloc (Nat.le_refl _) _
  have HXB := Lib.hid (show BoxS (W.heap.size + 1) ⟨(t0 : Nat), t1, t2⟩ X by rw [hX, ← hsz1]; exact heap_alloc_new _ _)
  have HRES := Lib.hid (hz.later hbX)
  have HBX := Lib.hid (hb1.trans (hbX.mono hb1.size))
  have HX := Lib.hid hX
  have HSZ := Lib.hid hsz1
  have henc := rencst_any (tkS s) X (tkS_ok s)
  obtain ⟨es, hes⟩ : ∃ es, es = (tkS s).encS := ⟨_, rfl⟩
  obtain ⟨ee, hee⟩ : ∃ ee, ee = (tkS s).encE := ⟨_, rfl⟩
  rw [← hes, ← hee, HT.out] at henc
  unfold St.ag St.cs at henc
  have HENC := Lib.hid henc
  obtain ⟨hro, hrc⟩ := refS_ok (s := s)
  have hcs : (ee = 2 ∧ decSOk s.data.toList = false) ∨ (ee = 0 ∧ es ≠ s ∧ decSOk s.data.toList = false) ∨ (ee = 0 ∧ es = s ∧ decSOk s.data.toList = true) := by
    rw [← hro, hes, hee]
    unfold St.encS St.encE
    cases (tkS s).may
    · simp
    · by_cases h : bs (tkS s).enc = s
      · simp [h]
      · simp [h]
  have HRC := Lib.hid hrc
  clear ht0 ht1 ht2 hb1 hz hsz1 hW1 hX hbX henc hes hee hro hrc
  rcases hcs with ⟨h1, hd⟩ | ⟨h1, h2, hd⟩ | ⟨h1, h2, hd⟩
  all_goals
    subst h1
    first
      | (have e2 : (es.toList == s.toList) = true := str_yes h2)
      | (have e2 : (es.toList == s.toList) = false := str_no h2)
      | skip
    have HD := Lib.hid hd
    have HST := Lib.hid (show decSOk s.data.toList = true → decS s.data.toList = ⟨(t0 : Nat), t1, t2⟩ from fun h => by unfold decS; rw [h, if_pos rfl, ← HRC.out h, HT.out])
    clear hd
    (try clear h2)
    go_enter Try.func27, Try.ntmps27
    go_wp2_with fail
    rw [← HW1.out]
    refine (rtk_any s 0 1 W1 (by omega) hs).mono ?_
    rintro e w ⟨rfl, rfl⟩
    rw [← HT0.out]
    go_wp2_with fail
    refine (rtk_any s 1 4 W1 (by omega) hs).mono ?_
    rintro e w ⟨rfl, rfl⟩
    rw [← HT1.out]
    go_wp2_with fail
    refine (rtk_any s 5 4 W1 (by omega) hs).mono ?_
    rintro e w ⟨rfl, rfl⟩
    rw [← HT2.out]
    go_wp2_with fail
    rw [← HX.out, HSZ.out]
    refine HENC.out.mono ?_
    rintro e V ⟨rfl, hb⟩
    have HXV := Lib.hid (HXB.out.later hb)
    have HRV := Lib.hid (HRES.out.later hb)
    have HBV := Lib.hid (HBX.out.trans (hb.mono HBX.out.size))
    clear hb
    obtain ⟨x0, x1, x2⟩ := HXV.out.cells
    obtain ⟨z0, z1, z2⟩ := HRV.out.cells
    have f0 := frozen_of_row _ _ 0 _ _ HRV.out
    have f1 := frozen_of_row _ _ 1 _ _ HRV.out
    have f2 := frozen_of_row _ _ 2 _ _ HRV.out
    simp only [St.zero] at z0 z1 z2
    go_wp2_with fail
    (try simp only [Exit.inBlock, Exit.then])
    refine bodyPost_ret (v := .tuple #[(decS s.data.toList).ag, .int .i64 (decSE s.data.toList)]) ?_ rfl ⟨rfl, ?_⟩
    · simp only [results, Try.results27]
      unfold decSE
      rw [HD.out]
      first
        | (rw [HST.out HD.out]; go_simp; rfl)
        | (unfold decS; rw [HD.out]; go_simp; rfl)
    · repeat (with_reducible refine Below.setCell ?_ (by simp only; omega) _)
      exact HBV.out

end Go.Proofs.Ytcdmmplmkgdejaa
