import Derived.Test.YtickjmkkgcfkhaaGreatRecL
import Derived.Test.YtickjmkkgcfkhaaGreatWireG1
/- Contracts of the reference's record: the record and the stamp of bytes. -/
set_option linter.unusedSimpArgs false
set_option linter.unusedVariables false
set_option maxRecDepth 100000
namespace Go.Proofs.YtickjmkkgcfkhaaGreat
open Go.RowKit Go.ChangeShapes Go.WideShapes

theorem rtk_any (s : ByteArray) (p m : Nat) (W : World) (hp : p ≤ 100000) (hs : s.size ≤ 140737488355328) :
    Calls Tryz.prog 27 #[.string s, .int .i64 p, .int .i64 m] W fun e W' => e = .returned (.int .u64 (tk s p m : Nat)) ∧ W = W' := by
  have HT := Lib.hid (rtake_any s p m W (by omega) hs)
  go_enter Tryz.func27, Tryz.ntmps27
  go_wp2_with fail
  refine HT.out.mono ?_
  rintro e w ⟨rfl, rfl⟩
  go_wp2_with fail
  go_returns
  exact ⟨rfl, rfl⟩

theorem bs_ne_iff {l : List UInt8} {s : ByteArray} : (bs l = s) ↔ l = s.data.toList := by
  constructor
  · rintro rfl; rfl
  · rintro rfl; exact bs_of s
theorem str_yes {a b : ByteArray} (h : a = b) : (a.toList == b.toList) = true := by rw [h, beq_iff_eq]
theorem str_no {a b : ByteArray} (h : a ≠ b) : (a.toList == b.toList) = false := by
  rw [beq_eq_false_iff_ne, ByteArray.toList_eq, ByteArray.toList_eq]
  intro he
  exact h (bytes_inj he)
theorem refS_ok {s : ByteArray} : ((tkS s).may && decide (bs (tkS s).enc = s)) = decSOk s.data.toList ∧ (decSOk s.data.toList = true → tkS s = candS s.data.toList) := by
  by_cases h9 : s.size = 9
  · have h := tkS_in (s := s) (by omega)
    have he : bs (candS s.data.toList).enc = s := by rw [St.enc_dec (by rw [size_len]; exact h9), bs_of]
    rw [h, he]
    refine ⟨?_, fun _ => rfl⟩
    unfold decSOk
    rw [size_len, decide_eq_true h9, decide_eq_true rfl, Bool.true_and, Bool.and_true]
  · have h0 : decSOk s.data.toList = false := by unfold decSOk; rw [size_len, decide_eq_false h9, Bool.false_and]
    rw [h0]
    refine ⟨?_, fun h => by cases h⟩
    have : ¬ bs (tkS s).enc = s := fun h => h9 (by rw [← h, bs_size, St.enc_len])
    rw [decide_eq_false this, Bool.and_false]

set_option maxRecDepth 100000 in
set_option maxHeartbeats 3200000 in
theorem rdecst_any (s : ByteArray) (W : World) (hs : s.size ≤ 140737488355328) :
    Calls Tryz.prog 15 #[.string s] W fun e W' => e = .returned (.tuple #[(decS s.data.toList).ag, .int .i64 (decSE s.data.toList)]) ∧ Below W.heap.size W W' := by
  obtain ⟨W1, hW1⟩ : ∃ W1, W1 = W.alloc (.cells #[.int .i64 0, .int .u32 0, .int .u32 0] 27) := ⟨_, rfl⟩
  have hb1 : Below W.heap.size W W1 := by rw [hW1]; exact (Below.refl _ _).alloc (Nat.le_refl _) _
  have hz : BoxS W.heap.size St.zero W1 := by rw [hW1]; exact heap_alloc_new _ _
  have hsz1 : W1.heap.size = W.heap.size + 1 := by rw [hW1, World.size_alloc]
  obtain ⟨t0, ht0⟩ : ∃ t, t = tk s 0 1 := ⟨_, rfl⟩
  obtain ⟨t1, ht1⟩ : ∃ t, t = tk s 1 4 := ⟨_, rfl⟩
  obtain ⟨t2, ht2⟩ : ∃ t, t = tk s 5 4 := ⟨_, rfl⟩
  have b0 : t0 < 256 := by rw [ht0]; exact tk_lt s 0 (by omega)
  have b1 : t1 < 4294967296 := by rw [ht1]; exact tk_lt s 1 (m := 4) (by omega)
  have b2 : t2 < 4294967296 := by rw [ht2]; exact tk_lt s 5 (m := 4) (by omega)
  have w0 : IntKind.i64.wrap (t0 : Int) = (t0 : Int) := IntWalk.i64_in _ (by omega)
  have w1 : IntKind.u32.wrap (t1 : Int) = (t1 : Int) := IntWalk.u32_in _ (by omega)
  have w2 : IntKind.u32.wrap (t2 : Int) = (t2 : Int) := IntWalk.u32_in _ (by omega)
  have HT := Lib.hid (show tkS s = ⟨(t0 : Nat), t1, t2⟩ by unfold tkS; rw [← ht0, ← ht1, ← ht2])
  have HT0 := Lib.hid ht0
  have HT1 := Lib.hid ht1
  have HT2 := Lib.hid ht2
  have HW1 := Lib.hid hW1
  obtain ⟨X, hX⟩ : ∃ X, X = W1.alloc (.cells #[.int .i64 (t0 : Int), .int .u32 (t1 : Int), .int .u32 (t2 : Int)] 27) := ⟨_, rfl⟩
  have hbX : Below W1.heap.size W1 X := by rw [hX]; exact (Below.refl _ _).alloc (Nat.le_refl _) _
  have HXB := Lib.hid (show BoxS (W.heap.size + 1) ⟨(t0 : Nat), t1, t2⟩ X by rw [hX, ← hsz1]; exact heap_alloc_new _ _)
  have HRES := Lib.hid (hz.later hbX)
  have HBX := Lib.hid (hb1.trans (hbX.mono hb1.size))
  have HX := Lib.hid hX
  have HSZ := Lib.hid hsz1
  have henc := rencst_any (tkS s) X (tkS_ok s)
  obtain ⟨es, hes⟩ : ∃ es, es = (tkS s).encS := ⟨_, rfl⟩
  obtain ⟨ee, hee⟩ : ∃ ee, ee = (tkS s).encE := ⟨_, rfl⟩
  rw [← hes, ← hee, HT.out] at henc
  unfold St.ag St.cs at henc
  have HENC := Lib.hid henc
  obtain ⟨hro, hrc⟩ := refS_ok (s := s)
  have hcs : (ee = 2 ∧ decSOk s.data.toList = false) ∨ (ee = 0 ∧ es ≠ s ∧ decSOk s.data.toList = false) ∨ (ee = 0 ∧ es = s ∧ decSOk s.data.toList = true) := by
    rw [← hro, hes, hee]
    unfold St.encS St.encE
    cases (tkS s).may
    · simp
    · by_cases h : bs (tkS s).enc = s
      · simp [h]
      · simp [h]
  have HRC := Lib.hid hrc
  clear ht0 ht1 ht2 hb1 hz hsz1 hW1 hX hbX henc hes hee hro hrc
  rcases hcs with ⟨h1, hd⟩ | ⟨h1, h2, hd⟩ | ⟨h1, h2, hd⟩
  all_goals
    subst h1
    first
      | (have e2 : (es.toList == s.toList) = true := str_yes h2)
      | (have e2 : (es.toList == s.toList) = false := str_no h2)
      | skip
    have HD := Lib.hid hd
    have HST := Lib.hid (show decSOk s.data.toList = true → decS s.data.toList = ⟨(t0 : Nat), t1, t2⟩ from fun h => by unfold decS; rw [h, if_pos rfl, ← HRC.out h, HT.out])
    clear hd
    (try clear h2)
    go_enter Tryz.func15, Tryz.ntmps15
    go_wp2_with fail
    rw [← HW1.out]
    refine (rtk_any s 0 1 W1 (by omega) hs).mono ?_
    rintro e w ⟨rfl, rfl⟩
    rw [← HT0.out]
    go_wp2_with fail
    refine (rtk_any s 1 4 W1 (by omega) hs).mono ?_
    rintro e w ⟨rfl, rfl⟩
    rw [← HT1.out]
    go_wp2_with fail
    refine (rtk_any s 5 4 W1 (by omega) hs).mono ?_
    rintro e w ⟨rfl, rfl⟩
    rw [← HT2.out]
    go_wp2_with fail
    rw [← HX.out, HSZ.out]
    refine HENC.out.mono ?_
    rintro e V ⟨rfl, hb⟩
    have HXV := Lib.hid (HXB.out.later hb)
    have HRV := Lib.hid (HRES.out.later hb)
    have HBV := Lib.hid (HBX.out.trans (hb.mono HBX.out.size))
    clear hb
    obtain ⟨x0, x1, x2⟩ := HXV.out.cells
    obtain ⟨z0, z1, z2⟩ := HRV.out.cells
    have f0 := frozen_of_row _ _ 0 _ _ HRV.out
    have f1 := frozen_of_row _ _ 1 _ _ HRV.out
    have f2 := frozen_of_row _ _ 2 _ _ HRV.out
    simp only [St.zero] at z0 z1 z2
    go_wp2_with fail
    (try simp only [Exit.inBlock, Exit.then])
    refine bodyPost_ret (v := .tuple #[(decS s.data.toList).ag, .int .i64 (decSE s.data.toList)]) ?_ rfl ⟨rfl, ?_⟩
    · simp only [results, Tryz.results15]
      unfold decSE
      rw [HD.out]
      first
        | (rw [HST.out HD.out]; go_simp; rfl)
        | (unfold decS; rw [HD.out]; go_simp; rfl)
    · repeat (with_reducible refine Below.setCell ?_ (by simp only; omega) _)
      exact HBV.out

end Go.Proofs.YtickjmkkgcfkhaaGreat

/- Contracts of the reference's record: the record of bytes. -/
set_option linter.unusedSimpArgs false
set_option linter.unusedVariables false
set_option maxRecDepth 100000
namespace Go.Proofs.YtickjmkkgcfkhaaGreat
open Go.RowKit Go.ChangeShapes Go.WideShapes

/-- What the reference's answer is held against: as many neighbours as are told, and as there are bytes. -/
theorem ref_ok {s : ByteArray} {k : Nat} (hk : k ≤ tk s 12 1) (hx : k = tk s 12 1 ∨ s.size ≤ 13 + 3 * k) :
    ((rcT s (tk s 11 1 == 1) k).chk && decide (bs (rcT s (tk s 11 1 == 1) k).enc = s)) = decOk s.data.toList ∧ (decOk s.data.toList = true → rcT s (tk s 11 1 == 1) k = cand s.data.toList) := by
  by_cases hd : decOk s.data.toList = true
  · have hd2 := hd
    simp only [decOk, size_len, Bool.and_eq_true, decide_eq_true_eq] at hd2
    obtain ⟨⟨⟨h1, h2⟩, h3⟩, h4⟩ := hd2
    have h5 : s.size = 13 + 3 * tk s 12 1 := by rw [tk_in (p := 12) (by omega) (by omega)]; exact h3
    have hkn : k = tk s 12 1 := by omega
    rw [hkn, rcT_in h5]
    refine ⟨?_, fun _ => rfl⟩
    have he : bs (cand s.data.toList).enc = s := by rw [enc_dec hd, bs_of]
    rw [h4, he, decide_eq_true rfl, hd]; rfl
  · have hd0 : decOk s.data.toList = false := by simpa using hd
    rw [hd0]
    refine ⟨?_, fun h => by cases h⟩
    rw [Bool.eq_false_iff]
    intro h
    simp only [Bool.and_eq_true, decide_eq_true_eq] at h
    obtain ⟨h1, h2⟩ := dec_enc (rcT_ok s (tk s 11 1 == 1) k) h.1
    have h3 : (rcT s (tk s 11 1 == 1) k).enc = s.data.toList := bs_ne_iff.1 h.2
    rw [h3] at h1
    exact hd h1
structure RdeS (W : World) (V : World) : Prop where
  res : BoxR W.heap.size Rc.zero none 0 V
  bel : Below W.heap.size W V
def RDecRel (W : World) (s : ByteArray) (n : Nat) (g : Bool) (i : Value) (V : World) : Prop :=
  ∃ (k : Nat) (sa : Option Addr) (sc : Nat), i = .int .i64 k ∧ k ≤ n ∧ RdeS W V ∧ BoxR (W.heap.size + 1) (rcT s g k) sa sc V ∧ ARow V (W.heap.size + 2) sa sc (adjT s k)

set_option maxRecDepth 100000 in
set_option maxHeartbeats 1000000 in
theorem rdecode_any (s : ByteArray) (W : World) (hs : s.size ≤ 140737488355328) :
    Calls Tryz.prog 14 #[.string s] W (DecPost W (decR s.data.toList) (decE s.data.toList)) := by
  obtain ⟨W1, hW1⟩ : ∃ W1, W1 = W.alloc (.cells #[.int .i64 0, .int .u32 0, .int .u32 0, .int .i64 0, .bool false, .slice none 0 0] 25) := ⟨_, rfl⟩
  have hb1 : Below W.heap.size W W1 := by rw [hW1]; exact (Below.refl _ _).alloc (Nat.le_refl _) _
  have hz : BoxR W.heap.size Rc.zero none 0 W1 := by rw [hW1]; exact heap_alloc_new _ _
  have hsz1 : W1.heap.size = W.heap.size + 1 := by rw [hW1, World.size_alloc]
  obtain ⟨t0, ht0⟩ : ∃ t, t = tk s 0 1 := ⟨_, rfl⟩
  obtain ⟨t1, ht1⟩ : ∃ t, t = tk s 1 4 := ⟨_, rfl⟩
  obtain ⟨t2, ht2⟩ : ∃ t, t = tk s 5 4 := ⟨_, rfl⟩
  obtain ⟨t3, ht3⟩ : ∃ t, t = tk s 9 2 := ⟨_, rfl⟩
  obtain ⟨ti, hti⟩ : ∃ t, t = tk s 11 1 := ⟨_, rfl⟩
  obtain ⟨n, hn⟩ : ∃ t, t = tk s 12 1 := ⟨_, rfl⟩
  have bt0 : t0 < 256 := by rw [ht0]; exact tk_lt s 0 (m := 1) (by omega)
  have bt1 : t1 < 4294967296 := by rw [ht1]; exact tk_lt s 1 (m := 4) (by omega)
  have bt2 : t2 < 4294967296 := by rw [ht2]; exact tk_lt s 5 (m := 4) (by omega)
  have bt3 : t3 < 65536 := by rw [ht3]; exact tk_lt s 9 (m := 2) (by omega)
  have bti : ti < 256 := by rw [hti]; exact tk_lt s 11 (m := 1) (by omega)
  have bn : n < 256 := by rw [hn]; exact tk_lt s 12 (m := 1) (by omega)
  have w0 : IntKind.i64.wrap (t0 : Int) = (t0 : Int) := IntWalk.i64_in _ (by omega)
  have w1 : IntKind.u32.wrap (t1 : Int) = (t1 : Int) := IntWalk.u32_in _ (by omega)
  have w2 : IntKind.u32.wrap (t2 : Int) = (t2 : Int) := IntWalk.u32_in _ (by omega)
  have w3 : IntKind.i64.wrap (t3 : Int) = (t3 : Int) := IntWalk.i64_in _ (by omega)
  have wn : IntKind.i64.wrap (n : Int) = (n : Int) := IntWalk.i64_in _ (by omega)
  have HRC := Lib.hid (show ∀ g k, rcT s g k = ⟨(t0 : Nat), t1, t2, (t3 : Nat), g, adjT s k⟩ from fun g k => by unfold rcT; rw [← ht0, ← ht1, ← ht2, ← ht3])
  obtain ⟨g, hg⟩ : ∃ g : Bool, g = (ti == 1) := ⟨_, rfl⟩
  have hgi : (((ti : Nat) : Int) == 1) = g := by
    rw [hg, Bool.eq_iff_iff]; simp only [beq_iff_eq]; omega
  obtain ⟨X, hX⟩ : ∃ X, X = W1.alloc (.cells #[.int .i64 (t0 : Int), .int .u32 (t1 : Int), .int .u32 (t2 : Int), .int .i64 (t3 : Int), .bool g, .slice none 0 0] 25) := ⟨_, rfl⟩
  have hbX : Below W1.heap.size W1 X := by rw [hX]; exact (Below.refl _ _).alloc (Nat.le_refl _) _
  have hxb : X.heap[W.heap.size + 1]? = some (.cells #[.int .i64 (t0 : Int), .int .u32 (t1 : Int), .int .u32 (t2 : Int), .int .i64 (t3 : Int), .bool g, .slice none 0 0] 25 (0, 0)) := by rw [hX, ← hsz1]; exact heap_alloc_new _ _
  have HR0 := Lib.hid (show RDecRel W s n g (.int .i64 0) X from ⟨0, none, 0, rfl, Nat.zero_le _, ⟨hz.later hbX, hb1.trans (hbX.mono hb1.size)⟩, by rw [HRC.out]; exact hxb, Row.nil_ _ _ _ _⟩)
  have Ht0 := Lib.hid ht0
  have Ht1 := Lib.hid ht1
  have Ht2 := Lib.hid ht2
  have Ht3 := Lib.hid ht3
  have Hti := Lib.hid hti
  have Hn := Lib.hid hn
  have HG := Lib.hid hg
  have HX := Lib.hid hX
  have HSZ := Lib.hid hsz1
  have HW1 := Lib.hid hW1
  clear ht0 ht1 ht2 ht3 hti hn hb1 hz hsz1 hW1 hX hbX hxb hg
  go_enter Tryz.func14, Tryz.ntmps14
  go_wp2_with fail
  rw [← HW1.out]
  refine (rtk_any s 0 1 W1 (by omega) hs).mono ?_
  rintro e w ⟨rfl, rfl⟩
  rw [← Ht0.out]
  go_wp2_with fail
  refine (rtk_any s 1 4 W1 (by omega) hs).mono ?_
  rintro e w ⟨rfl, rfl⟩
  rw [← Ht1.out]
  go_wp2_with fail
  refine (rtk_any s 5 4 W1 (by omega) hs).mono ?_
  rintro e w ⟨rfl, rfl⟩
  rw [← Ht2.out]
  go_wp2_with fail
  refine (rtk_any s 9 2 W1 (by omega) hs).mono ?_
  rintro e w ⟨rfl, rfl⟩
  rw [← Ht3.out]
  go_wp2_with fail
  refine (rtk_any s 11 1 W1 (by omega) hs).mono ?_
  rintro e w ⟨rfl, rfl⟩
  rw [← Hti.out]
  go_wp2_with fail
  rw [← HX.out, HSZ.out]
  go_loopw [5] (fun i wr => RDecRel W s n g i wr) (fun i _ => 300 - (intOf i).toNat)
  case atStart => exact HR0.out
  case round =>
    obtain ⟨k, sa, sc, rfl, hk, hds, hbx, hro⟩ := hrel
    by_cases hgo : k < n ∧ 13 + 3 * k < s.size
    · obtain ⟨hlt, hls⟩ := hgo
      have hlti : (k : Int) < (n : Int) := by omega
      have hd : decide ((k : Int) < (n : Int)) = true := decide_eq_true hlti
      have hd' : decide (k < n) = true := decide_eq_true hlt
      obtain ⟨p, hp⟩ : ∃ p, p = 13 + 3 * k := ⟨_, rfl⟩
      have wk3 : IntKind.i64.wrap (3 * (k : Int)) = 3 * (k : Int) := IntWalk.i64_in _ (by omega)
      have ep : (13 : Int) + 3 * (k : Int) = (p : Int) := by omega
      obtain ⟨p2, hpp2⟩ : ∃ p2, p2 = p + 1 := ⟨_, rfl⟩
      have ep2 : (14 : Int) + 3 * (k : Int) = (p2 : Int) := by omega
      have wp0 : IntKind.i64.wrap (p : Int) = (p : Int) := IntWalk.i64_in _ (by omega)
      have wp1 : IntKind.i64.wrap (p2 : Int) = (p2 : Int) := IntWalk.i64_in _ (by omega)
      have hp22 : p2 ≤ 1001 := by omega
      have hpl : decide (p < s.size) = true := decide_eq_true (by omega)
      have hpl2 : (p : Int) < (s.size : Int) := by omega
      have hp2' : p ≤ 1000 := by omega
      obtain ⟨to, hto⟩ : ∃ t, t = tk s p 1 := ⟨_, rfl⟩
      obtain ⟨co, hco⟩ : ∃ t, t = tk s p2 2 := ⟨_, rfl⟩
      have bto : to < 256 := by rw [hto]; exact tk_lt s _ (m := 1) (by omega)
      have bco : co < 65536 := by rw [hco]; exact tk_lt s _ (m := 2) (by omega)
      have wto : IntKind.i64.wrap (to : Int) = (to : Int) := IntWalk.i64_in _ (by omega)
      have wco : IntKind.i64.wrap (co : Int) = (co : Int) := IntWalk.i64_in _ (by omega)
      obtain ⟨i0, hi, hz0, hz1, hz2⟩ := info_parts infoA
      obtain ⟨U, hU⟩ : ∃ U, U = wr.drew := ⟨_, rfl⟩
      have hdw : Below wr.heap.size wr U := by rw [hU]; exact ⟨rfl, rfl, rfl, Nat.le_refl _, fun _ _ => rfl⟩
      have HRES := Lib.hid (hds.res.later hdw)
      have HBEL := Lib.hid (hds.bel.trans (hdw.mono hds.bel.size))
      have HBX := Lib.hid (hbx.later hdw)
      have HTO := Lib.hid hto
      have HCO := Lib.hid hco
      have HPP := Lib.hid hp
      have HPP2 := Lib.hid hpp2
      have hal := adjT_len s k
      have HLF := Lib.hid (show ∀ V, BoxR (W.heap.size + 1) (rcT s g k) sa sc V → V.cell? ⟨W.heap.size + 1, 5, none⟩ = some (.slice sa k sc) from fun V h => by have := h.cells.2.2.2.2.2; rw [show (rcT s g k).adjs.length = k from hal] at this; exact this)
      have hrs := hro
      unfold ARow at hrs
      rw [hal] at hrs
      have HRS := Lib.hid (Row.later hrs hdw)
      clear hds hbx hro hrs hdw hto hco hal hlt hls hp hpp2
      go_wp2_with fail
      refine (rtk_any s 12 1 wr (by omega) hs).mono ?_
      rintro e w ⟨rfl, rfl⟩
      rw [← Hn.out]
      go_wp2_with fail
      refine wp_region_ordB [(0, 0), (1, 0), (2, 0), (3, 0), (4, 0), (5, 0), (8, 0), (9, 0), (10, 0), (11, 0), (6, 2), (7, 0), (12, 2), (13, 0), (14, 0), (15, 2), (16, 2), (17, 0), (18, 3)] [18] (BoxR (W.heap.size + 1) (rcT s g k) sa sc) (by kernel_rfl) (by kernel_rfl) (by decide) (by kernel_rfl) (fun d _ _ _ _ h => by cases d <;> exact h) (by rw [← hU]; exact HBX.out) ?_
      rw [← hU]
      clear hU
      iterate 10 ((apply wpOrdB_take rfl rfl (by kernel_rfl); (intro V hV; have x5 := HLF.out V hV; go_simp; rfl)); (try simp only [List.setIfInBounds_toArray, List.set_cons_succ, List.set_cons_zero]))
      apply wpOrdB_do rfl (by kernel_rfl)
      intro K hK
      go_simp
      refine (rtk_any s p 1 U (by omega) hs).mono ?_
      rintro e w ⟨rfl, rfl⟩
      rw [← HTO.out]
      refine hK _ _ HBX.out ?_
      clear hK K
      iterate 1 ((apply wpOrdB_take rfl rfl (by kernel_rfl); (intro V hV; go_simp; rfl)); (try simp only [List.setIfInBounds_toArray, List.set_cons_succ, List.set_cons_zero]))
      apply wpOrdB_do rfl (by kernel_rfl)
      intro K hK
      go_simp
      refine (rtk_any s p2 2 U (by omega) hs).mono ?_
      rintro e w ⟨rfl, rfl⟩
      rw [← HCO.out]
      refine hK _ _ HBX.out ?_
      clear hK K
      iterate 2 ((apply wpOrdB_take rfl rfl (by kernel_rfl); (intro V hV; go_simp; rfl)); (try simp only [List.setIfInBounds_toArray, List.set_cons_succ, List.set_cons_zero]))
      apply wpOrdB_do rfl (by kernel_rfl)
      intro K hK
      go_simp
      obtain ⟨A3, hA3⟩ : ∃ A3, A3 = U.alloc (.cells #[.int .i64 (to : Int), .int .i64 (co : Int)] 45) := ⟨_, rfl⟩
      have hbA3 : Below U.heap.size U A3 := by rw [hA3]; exact (Below.refl _ _).alloc (Nat.le_refl _) _
      have HNEW := Lib.hid (show ∀ j x, [Value.int .i64 (to : Int), Value.int .i64 (co : Int)][j]? = some x → A3.cell? ((⟨U.heap.size, 0, none⟩ : Addr).add j) = some x by rw [hA3]; exact cell_two_new2 U _ _ _)
      have HRES3 := Lib.hid (HRES.out.later hbA3)
      have HBEL3 := Lib.hid (HBEL.out.trans (hbA3.mono HBEL.out.size))
      have HBA3 := Lib.hid (HBX.out.later hbA3)
      have HRA3 := Lib.hid (Row.later HRS.out hbA3)
      rw [← hA3]
      refine hK _ _ HBA3.out ?_
      clear hK K hA3 hbA3
      apply wpOrdB_do rfl (by kernel_rfl)
      intro K hK
      refine wp_append_row _ (.tmp 40) (.tmp 54) 23 rfl (W.heap.size + 2) 45 i0 (.agg #[.int .i64 0, .int .i64 0]) 2 16 Tryz.underlying23 hi hz0 hz1 hz2 rfl (by decide) (.slice sa k sc) k (adjV (adjT s k)) rfl HRA3.out ⟨U.heap.size, 0, none⟩ 1 1 [.int .i64 (to : Int), .int .i64 (co : Int)] rfl rfl HNEW.out ?_ ?_ ?_ (Array.getElem?_eq_some_iff.1 HBA3.out).1 ?_
      · intro u hu
        simp only [List.mem_cons, List.not_mem_nil, or_false] at hu
        rcases hu with rfl | rfl <;> rfl
      · unfold maxLen; omega
      · omega
      intro v' A4 hrow4 hg4 _ _
      have hown : ∀ j, (Value.slice sa k sc).ownBlock = some j → W.heap.size + 2 ≤ j := fun j hj => (Row.lt HRA3.out j hj).1
      have HRES4 := Lib.hid (show BoxR W.heap.size Rc.zero none 0 A4 from (hg4.block _ (Array.getElem?_eq_some_iff.1 HRES3.out).1 (fun e => by have := hown _ e.symm; omega)).trans HRES3.out)
      have HBEL4 := Lib.hid (HBEL3.out.grown hg4 HBEL3.out.size (fun j hj => by have := hown j hj; omega))
      have HBA4 := Lib.hid (show BoxR (W.heap.size + 1) (rcT s g k) sa sc A4 from (hg4.block _ (Array.getElem?_eq_some_iff.1 HBA3.out).1 (fun e => by have := hown _ e.symm; omega)).trans HBA3.out)
      obtain ⟨sa', sc', hv', _, _⟩ := Row.shape hrow4
      subst hv'
      have HR4 := Lib.hid hrow4
      refine hK _ _ HBA4.out ?_
      clear hK K hrow4 hg4 hown
      simp only [Act.put, List.setIfInBounds_toArray, List.set_cons_succ, List.set_cons_zero]
      iterate 1 ((apply wpOrdB_take rfl rfl (by kernel_rfl); (intro V hV; go_simp; rfl)); (try simp only [List.setIfInBounds_toArray, List.set_cons_succ, List.set_cons_zero]))
      apply wpOrdB_last rfl (by kernel_rfl)
      intro K hK
      have c5 := HLF.out A4 HBA4.out
      have f5 := frozen_of_row _ _ 5 _ _ HBA4.out
      have hcs := HBA4.out
      unfold BoxR Rc.cs at hcs
      rw [HRC.out] at hcs
      simp only at hcs
      have hset := heap_setCell_same A4 (W.heap.size + 1) 5 _ _ (.slice sa' (k + 1) sc') hcs
      have HR := Lib.hid (show RDecRel W s n g (.int .i64 ((k : Int) + 1)) (A4.setCell ⟨W.heap.size + 1, 5, none⟩ (.slice sa' (k + 1) sc')) from by
        refine ⟨k + 1, sa', sc', by go_num, by omega, ⟨?_, ?_⟩, ?_, ?_⟩
        · exact (heap_setCell_other A4 ⟨W.heap.size + 1, 5, none⟩ W.heap.size _ (by simp)).trans HRES4.out
        · exact HBEL4.out.setCell (by simp only; omega) _
        · unfold BoxR Rc.cs
          rw [HRC.out, hset]
          simp only [adjT_len]
          rfl
        · unfold ARow
          rw [adjT_len, adjT_succ]
          have h := Row.setOther HR4.out ⟨W.heap.size + 1, 5, none⟩ (.slice sa' (k + 1) sc') (by simp only; omega)
          have e2 : adjV (adjT s k ++ [(((tk s (13 + 3 * k) 1 : Nat) : Int), ((tk s (14 + 3 * k) 2 : Nat) : Int))]) = adjV (adjT s k) ++ [.int .i64 (to : Int), .int .i64 (co : Int)] := by
            rw [HTO.out, HCO.out, HPP2.out, HPP.out, show 14 + 3 * k = 13 + 3 * k + 1 from by omega]; simp [adjV]
          rw [e2]
          exact h)
      clear hcs hset
      go_simp
      refine hK _ _ ?_
      clear hK K
      refine wpOrdB_nil ?_
      clear c5 f5
      go_wp2_with fail
      go_roundw
      case rel => first | exact HR.out | ((repeat apply Exists.intro); exact ⟨HR.out, rfl⟩)
      case measure => simp [intOf]; omega
    · have hend : (k < n ∧ s.size ≤ 13 + 3 * k) ∨ k = n := by omega
      clear hgo
      obtain ⟨hro1, hro2⟩ := ref_ok (s := s) (k := k) (by rw [← Hn.out]; exact hk) (by rw [← Hn.out]; omega)
      rw [← Hti.out, ← HG.out] at hro1 hro2
      have hbx' : BoxR (W.heap.size + 1) ⟨(t0 : Nat), t1, t2, (t3 : Nat), g, adjT s k⟩ sa sc wr := by rw [← HRC.out]; exact hbx
      have HBX := Lib.hid hbx'
      have henc := rencode_any ⟨(t0 : Nat), t1, t2, (t3 : Nat), g, adjT s k⟩ sa sc wr (ARow.adjs hro) (by rw [adjT_len]; unfold maxLen; omega) (by rw [← HRC.out]; exact rcT_ok s g k)
      unfold Rc.ag Rc.cs at henc
      simp only [adjT_len] at henc
      obtain ⟨es, hes⟩ : ∃ es, es = (⟨(t0 : Nat), t1, t2, (t3 : Nat), g, adjT s k⟩ : Rc).encS := ⟨_, rfl⟩
      obtain ⟨ee, hee⟩ : ∃ ee, ee = (⟨(t0 : Nat), t1, t2, (t3 : Nat), g, adjT s k⟩ : Rc).err := ⟨_, rfl⟩
      rw [← hes, ← hee] at henc
      have hcs : (ee = 2 ∧ decOk s.data.toList = false) ∨ (ee = 0 ∧ es ≠ s ∧ decOk s.data.toList = false) ∨ (ee = 0 ∧ es = s ∧ decOk s.data.toList = true) := by
        rw [HRC.out] at hro1
        rw [← hro1, hes, hee]
        unfold Rc.encS Rc.err
        cases (⟨(t0 : Nat), t1, t2, (t3 : Nat), g, adjT s k⟩ : Rc).chk
        · simp
        · by_cases h : bs (⟨(t0 : Nat), t1, t2, (t3 : Nat), g, adjT s k⟩ : Rc).enc = s
          · simp [h]
          · simp [h]
      have HDR := Lib.hid (show decOk s.data.toList = true → decR s.data.toList = ⟨(t0 : Nat), t1, t2, (t3 : Nat), g, adjT s k⟩ from fun h => by unfold decR; rw [h, if_pos rfl, ← hro2 h, HRC.out])
      have HENC := Lib.hid henc
      have HRO := Lib.hid hro
      have HRES := Lib.hid hds.res
      have HBEL := Lib.hid hds.bel
      have hcells := hbx'.cells
      simp only [adjT_len] at hcells
      obtain ⟨x0, x1, x2, x3, x4, x5⟩ := hcells
      have wk3 : IntKind.i64.wrap (3 * (k : Int)) = 3 * (k : Int) := IntWalk.i64_in _ (by omega)
      obtain ⟨p, hp⟩ : ∃ p, p = 13 + 3 * k := ⟨_, rfl⟩
      have ep : (13 : Int) + 3 * (k : Int) = (p : Int) := by omega
      have wp0 : IntKind.i64.wrap (p : Int) = (p : Int) := IntWalk.i64_in _ (by omega)
      have hways : (k < n ∧ ¬ p < s.size ∧ decide (p < s.size) = false) ∨ (¬ k < n ∧ decide (k < n) = false) := by
        rcases hend with ⟨h1, h2⟩ | h1
        · exact .inl ⟨h1, by omega, decide_eq_false (by omega)⟩
        · exact .inr ⟨by omega, decide_eq_false (by omega)⟩
      have HCS := Lib.hid hcs
      have hp2 : p ≤ 1000 := by omega
      clear hds hbx hbx' hro henc hes hee hcs hro1 hro2 hend hp
      rcases hways with ⟨h1, h2, h3⟩ | ⟨h1, h2⟩
      all_goals
        go_wp2_with fail
        refine (rtk_any s 12 1 wr (by omega) hs).mono ?_
        rintro e w ⟨rfl, rfl⟩
        rw [← Hn.out]
        go_wp2_with fail
        refine HENC.out.mono ?_
        rintro e V ⟨rfl, hb⟩
        have HBX7 := Lib.hid (HBX.out.later hb)
        have HRO7 := Lib.hid (Row.later HRO.out hb)
        have HRES7 := Lib.hid (HRES.out.later hb)
        have HBEL7 := Lib.hid (HBEL.out.trans (hb.mono HBEL.out.size))
        clear hb x0 x1 x2 x3 x4 x5
        have hcells := HBX7.out.cells
        simp only [adjT_len] at hcells
        obtain ⟨x0, x1, x2, x3, x4, x5⟩ := hcells
        obtain ⟨z0, z1, z2, z3, z4, z5⟩ := HRES7.out.cells
        have f0 := frozen_of_row _ _ 0 _ _ HRES7.out
        have f1 := frozen_of_row _ _ 1 _ _ HRES7.out
        have f2 := frozen_of_row _ _ 2 _ _ HRES7.out
        have f3 := frozen_of_row _ _ 3 _ _ HRES7.out
        have f4 := frozen_of_row _ _ 4 _ _ HRES7.out
        have f5 := frozen_of_row _ _ 5 _ _ HRES7.out
        simp only [Rc.zero, List.length_nil] at z0 z1 z2 z3 z4 z5
        rcases HCS.out with ⟨g1, gd⟩ | ⟨g1, g2, gd⟩ | ⟨g1, g2, gd⟩
        · subst g1
          have HD := Lib.hid gd
          clear gd
          go_wp2_with fail
          (try simp only [Exit.inBlock, Exit.then])
          refine bodyPost_ret (v := .tuple #[(decR s.data.toList).ag none 0, .int .i64 (decE s.data.toList)]) ?_ rfl ⟨none, 0, rfl, ?_, ?_⟩
          · simp only [results, Tryz.results14]
            unfold decR decE
            rw [HD.out]
            go_simp
            rfl
          · unfold decR
            rw [HD.out]
            exact Row.nil_ _ _ _ _
          · repeat (with_reducible refine Below.setCell ?_ (by simp only; omega) _)
            exact HBEL7.out
        · subst g1
          have e2 : (es.toList == s.toList) = false := str_no g2
          have HD := Lib.hid gd
          clear gd g2
          go_wp2_with fail
          (try simp only [Exit.inBlock, Exit.then])
          refine bodyPost_ret (v := .tuple #[(decR s.data.toList).ag none 0, .int .i64 (decE s.data.toList)]) ?_ rfl ⟨none, 0, rfl, ?_, ?_⟩
          · simp only [results, Tryz.results14]
            unfold decR decE
            rw [HD.out]
            go_simp
            rfl
          · unfold decR
            rw [HD.out]
            exact Row.nil_ _ _ _ _
          · repeat (with_reducible refine Below.setCell ?_ (by simp only; omega) _)
            exact HBEL7.out
        · subst g1
          have e2 : (es.toList == s.toList) = true := str_yes g2
          have HD2 := Lib.hid (HDR.out gd)
          have HDE := Lib.hid (show decE s.data.toList = 0 by unfold decE; rw [gd]; rfl)
          clear gd g2
          go_wp2_with fail
          (try simp only [Exit.inBlock, Exit.then])
          refine bodyPost_ret (v := .tuple #[(decR s.data.toList).ag sa sc, .int .i64 (decE s.data.toList)]) ?_ rfl ⟨sa, sc, rfl, ?_, ?_⟩
          · simp only [results, Tryz.results14]
            rw [HD2.out, HDE.out]
            unfold Rc.ag Rc.cs
            simp only [adjT_len]
            go_simp
          · rw [HD2.out]
            refine Row.more (?_ : Row _ (W.heap.size + 2) _ _ _ _ _) (show W.heap.size ≤ W.heap.size + 2 by omega)
            exact Row.setOther (Row.setOther (Row.setOther (Row.setOther (Row.setOther (Row.setOther HRO7.out _ _ (by simp only; omega)) _ _ (by simp only; omega)) _ _ (by simp only; omega)) _ _ (by simp only; omega)) _ _ (by simp only; omega)) _ _ (by simp only; omega)
          · repeat (with_reducible refine Below.setCell ?_ (by simp only; omega) _)
            exact HBEL7.out

end Go.Proofs.YtickjmkkgcfkhaaGreat
