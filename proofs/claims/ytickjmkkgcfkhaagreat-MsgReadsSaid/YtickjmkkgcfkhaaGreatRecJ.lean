/- Contracts of the record: the stamp of bytes. -/
import Derived.Test.YtickjmkkgcfkhaaGreatRecI
set_option linter.unusedSimpArgs false
set_option linter.unusedVariables false
set_option maxRecDepth 100000
namespace Go.Proofs.YtickjmkkgcfkhaaGreat
open Go.RowKit Go.ChangeShapes Go.WideShapes

def candS (l : List UInt8) : St := ⟨(seg l 0 1 : Nat), seg l 1 4, seg l 5 4⟩
def St.zero : St := ⟨0, 0, 0⟩
def decSOk (l : List UInt8) : Bool := decide (l.length = 9) && (candS l).may
def decS (l : List UInt8) : St := if decSOk l then candS l else St.zero
def decSE (l : List UInt8) : Int := if decSOk l then 0 else 4
theorem St.enc_dec {l : List UInt8} (h : l.length = 9) : (candS l).enc = l := by
  unfold St.enc candS
  simp only [Int.toNat_natCast]
  rw [seg_nb (by omega), seg_nb (by omega), seg_nb (by omega)]
  have : l = l.take 9 := by rw [← h, List.take_length]
  rw [show (l.take 9 : List UInt8) = l.take (5 + 4) from rfl, take_split l 5 4, show l.take 5 = l.take (1 + 4) from rfl, take_split l 1 4] at this
  rw [List.drop_zero]
  exact this.symm
theorem St.dec_enc {s : St} (hok : s.ok) (h : s.may = true) : candS s.enc = s := by
  simp only [St.may, rtr, Bool.and_eq_true, decide_eq_true_eq] at h
  obtain ⟨⟨⟨h1, h2⟩, h3⟩, h4⟩ := h
  obtain ⟨_, o1, o2⟩ := hok
  have s0 : seg s.enc 0 1 = s.org.toNat := by
    unfold St.enc
    rw [List.append_assoc]
    exact seg_at (pre := []) rfl (by omega)
  have s1 : seg s.enc 1 4 = s.ep := seg_at (pre := nb s.org.toNat 1) (by simp [nb_len]) (by omega)
  have s5 : seg s.enc 5 4 = s.sq := by
    have := seg_at (pre := nb s.org.toNat 1 ++ nb s.ep 4) (suf := []) (a := 5) (k := 4) (v := s.sq) (by simp [nb_len]) (by omega)
    rwa [List.append_nil] at this
  unfold candS
  rw [s0, s1, s5, Int.toNat_of_nonneg (by omega)]
/-- The stamp that takes tell of. -/
def tkS (s : ByteArray) : St := ⟨(tk s 0 1 : Nat), tk s 1 4, tk s 5 4⟩
theorem tkS_ok (s : ByteArray) : (tkS s).ok := by
  have h0 := tk_lt s 0 (m := 1) (by omega)
  have h1 := tk_lt s 1 (m := 4) (by omega)
  have h2 := tk_lt s 5 (m := 4) (by omega)
  exact ⟨by simp only [tkS]; omega, by simp only [tkS]; omega, by simp only [tkS]; omega⟩
theorem size_len (s : ByteArray) : s.data.toList.length = s.size := by cases s; rfl
theorem tkS_in {s : ByteArray} (h : 9 ≤ s.size) : tkS s = candS s.data.toList := by
  unfold tkS candS
  rw [tk_in (by omega) (by omega), tk_in (by omega) (by omega), tk_in (by omega) (by omega)]

structure DsS (W : World) (s : ByteArray) (p : Nat) (ok : Bool) (V : World) : Prop where
  res : BoxS W.heap.size St.zero V
  rd : RdS (W.heap.size + 1) s p ok V
  bel : Below W.heap.size W V
theorem DsS.later {W V X : World} {s : ByteArray} {p : Nat} {ok : Bool} (h : DsS W s p ok V) (hb : Below V.heap.size V X) : DsS W s p ok X := ⟨h.res.later hb, h.rd.later hb, h.bel.trans (hb.mono h.bel.size)⟩
theorem DsS.fr {W V X : World} {s : ByteArray} {p q : Nat} {ok o : Bool} (h : DsS W s p ok V) (hr : RdS (W.heap.size + 1) s q o X) (hf : Fr (W.heap.size + 1) V X) : DsS W s q o X :=
  ⟨hf.keep h.res (by omega) (by omega), hr, hf.bel h.bel (by omega) h.bel.size⟩

set_option maxRecDepth 100000 in
set_option maxHeartbeats 3200000 in
theorem decst_any (s : ByteArray) (W : World) (hs : s.size ≤ 140737488355328) :
    Calls Tryz.prog 52 #[.string s] W fun e W' => e = .returned (.tuple #[(decS s.data.toList).ag, .int .i64 (decSE s.data.toList)]) ∧ Below W.heap.size W W' := by
  obtain ⟨W1, hW1⟩ : ∃ W1, W1 = W.alloc (.cells #[.int .i64 0, .int .u32 0, .int .u32 0] 27) := ⟨_, rfl⟩
  have hb1 : Below W.heap.size W W1 := by rw [hW1]; exact (Below.refl _ _).alloc (Nat.le_refl _) _
  have hz : BoxS W.heap.size St.zero W1 := by rw [hW1]; exact heap_alloc_new _ _
  have hsz1 : W1.heap.size = W.heap.size + 1 := by rw [hW1, World.size_alloc]
  obtain ⟨t0, ht0⟩ : ∃ t, t = tk s 0 1 := ⟨_, rfl⟩
  obtain ⟨t1, ht1⟩ : ∃ t, t = tk s 1 4 := ⟨_, rfl⟩
  obtain ⟨t2, ht2⟩ : ∃ t, t = tk s 5 4 := ⟨_, rfl⟩
  have b0 : t0 < 256 := by rw [ht0]; exact tk_lt s 0 (by omega)
  have b1 : t1 < 4294967296 := by rw [ht1]; exact tk_lt s 1 (m := 4) (by omega)
  have b2 : t2 < 4294967296 := by rw [ht2]; exact tk_lt s 5 (m := 4) (by omega)
  have w0 : IntKind.i64.wrap (t0 : Int) = (t0 : Int) := IntWalk.i64_in _ (by omega)
  have w1 : IntKind.u32.wrap (t1 : Int) = (t1 : Int) := IntWalk.u32_in _ (by omega)
  have w2 : IntKind.u32.wrap (t2 : Int) = (t2 : Int) := IntWalk.u32_in _ (by omega)
  have hent : ∀ args w, (callFunc 97 args).run Tryz.prog w = .ok (.enter 97 args) w := fun _ _ => by kernel_rfl
  have henw : ∀ args w, (callFunc 98 args).run Tryz.prog w = .ok (.enter 98 args) w := fun _ _ => by kernel_rfl
  have HT := Lib.hid (show tkS s = ⟨(t0 : Nat), t1, t2⟩ by unfold tkS; rw [← ht0, ← ht1, ← ht2])
  have HT0 := Lib.hid ht0
  have HT1 := Lib.hid ht1
  have HT2 := Lib.hid ht2
  have HB1 := Lib.hid hb1
  have HZ := Lib.hid hz
  have HSZ := Lib.hid hsz1
  have HW1 := Lib.hid hW1
  clear ht0 ht1 ht2 hb1 hz hsz1 hW1
  go_enter Tryz.func52, Tryz.ntmps52
  go_wp2_with fail
  rw [← HW1.out]
  refine (read_any s W1).mono ?_
  rintro e V ⟨rfl, hr, hb⟩
  have HS := Lib.hid (show DsS W s 0 true V from ⟨HZ.out.later hb, by rw [← HSZ.out]; exact hr, HB1.out.trans (hb.mono HB1.out.size)⟩)
  rw [HSZ.out]
  clear hr hb
  go_wp2_with fail
  refine (takec_any (W.heap.size + 1) s 0 1 true V HS.out.rd (by omega) (by omega) hs).mono ?_
  rintro e V1 ⟨rfl, hr, hf⟩
  have HS1 := Lib.hid (HS.out.fr hr hf)
  clear hr hf
  rw [← HT0.out]
  go_wp2_with fail
  refine (takec_any (W.heap.size + 1) s _ 4 _ V1 HS1.out.rd (by omega) (by omega) hs).mono ?_
  rintro e V2 ⟨rfl, hr, hf⟩
  have HS2 := Lib.hid (HS1.out.fr hr hf)
  clear hr hf
  simp only [Nat.zero_add, Nat.reduceAdd]
  rw [← HT1.out]
  go_wp2_with fail
  refine (takec_any (W.heap.size + 1) s _ 4 _ V2 HS2.out.rd (by omega) (by omega) hs).mono ?_
  rintro e V3 ⟨rfl, hr, hf⟩
  have HS3 := Lib.hid (HS2.out.fr hr hf)
  clear hr hf
  simp only [Nat.zero_add, Nat.reduceAdd]
  rw [← HT2.out]
  obtain ⟨X, hX⟩ : ∃ X, X = V3.alloc (.cells #[.int .i64 (t0 : Int), .int .u32 (t1 : Int), .int .u32 (t2 : Int)] 27) := ⟨_, rfl⟩
  have hbX : Below V3.heap.size V3 X := by rw [hX]; exact (Below.refl _ _).alloc (Nat.le_refl _) _
  have hx : BoxS V3.heap.size ⟨(t0 : Nat), t1, t2⟩ X := by rw [hX]; exact heap_alloc_new _ _
  obtain ⟨q, hq⟩ : ∃ q, q = V3.heap.size := ⟨_, rfl⟩
  rw [← hq] at hx
  have HS4 := Lib.hid (HS3.out.later hbX)
  have HXB := Lib.hid hx
  have HX := Lib.hid hX
  have HQ := Lib.hid hq
  clear hX hbX hx hq
  go_wp2_with fail
  rw [← HX.out, ← HQ.out]
  refine (wholec_any (W.heap.size + 1) s _ _ X HS4.out.rd hs).mono ?_
  rintro e w ⟨rfl, rfl⟩
  obtain ⟨wh, hwh⟩ : ∃ wh : Bool, wh = ((((true && decide (0 + 1 ≤ s.size)) && decide (0 + 1 + 4 ≤ s.size)) && decide (0 + 1 + 4 + 4 ≤ s.size)) && decide (0 + 1 + 4 + 4 = s.size)) := ⟨_, rfl⟩
  rw [← hwh]
  have hw9 : wh = decide (s.size = 9) := by
    rw [hwh]
    by_cases h9 : s.size = 9
    · rw [h9]; rfl
    · rw [decide_eq_false h9, decide_eq_false (show ¬ 0 + 1 + 4 + 4 = s.size by omega), Bool.and_false]
  obtain ⟨x0, x1, x2⟩ := HXB.out.cells
  obtain ⟨z0, z1, z2⟩ := HS4.out.res.cells
  have f0 := frozen_of_row _ _ 0 _ _ HS4.out.res
  have f1 := frozen_of_row _ _ 1 _ _ HS4.out.res
  have f2 := frozen_of_row _ _ 2 _ _ HS4.out.res
  simp only [St.zero] at z0 z1 z2
  have HWH := Lib.hid hw9
  clear hwh hw9
  cases wh
  · have hne : s.size ≠ 9 := of_decide_eq_false HWH.out.symm
    have HD := Lib.hid (show decSOk s.data.toList = false by unfold decSOk; rw [size_len, decide_eq_false hne, Bool.false_and])
    clear hne
    go_wp2_with fail
    (try simp only [Exit.inBlock, Exit.then])
    refine bodyPost_ret (v := .tuple #[(decS s.data.toList).ag, .int .i64 (decSE s.data.toList)]) ?_ rfl ⟨rfl, ?_⟩
    · simp only [results, Tryz.results52]
      unfold decS decSE
      rw [HD.out]
      go_simp
      rfl
    · repeat (with_reducible refine Below.setCell ?_ (by simp only; omega) _)
      exact HS4.out.bel
  · have h9 : s.size = 9 := of_decide_eq_true HWH.out.symm
    have hcd : tkS s = candS s.data.toList := tkS_in (by omega)
    have hmay := may_any ⟨(t0 : Nat), t1, t2⟩ X
    obtain ⟨my, hmy⟩ : ∃ my, my = (candS s.data.toList).may := ⟨_, rfl⟩
    have hst : candS s.data.toList = ⟨(t0 : Nat), t1, t2⟩ := by rw [← hcd, HT.out]
    rw [← hst, ← hmy] at hmay
    unfold St.ag St.cs at hmay
    rw [hst] at hmay
    have HMAY := Lib.hid hmay
    have HD := Lib.hid (show decSOk s.data.toList = my by unfold decSOk; rw [size_len, decide_eq_true h9, Bool.true_and, hmy])
    have HST := Lib.hid hst
    clear h9 hcd hmay hmy hst
    go_wp2_with fail
    refine HMAY.out.mono ?_
    rintro e V5 ⟨rfl, hb⟩
    have HS5 := Lib.hid (HS4.out.later hb)
    have HXB5 := Lib.hid (HXB.out.later hb)
    clear hb x0 x1 x2 z0 z1 z2 f0 f1 f2
    obtain ⟨x0, x1, x2⟩ := HXB5.out.cells
    obtain ⟨z0, z1, z2⟩ := HS5.out.res.cells
    have f0 := frozen_of_row _ _ 0 _ _ HS5.out.res
    have f1 := frozen_of_row _ _ 1 _ _ HS5.out.res
    have f2 := frozen_of_row _ _ 2 _ _ HS5.out.res
    simp only [St.zero] at z0 z1 z2
    cases my
    all_goals
      go_wp2_with fail
      (try simp only [Exit.inBlock, Exit.then])
      refine bodyPost_ret (v := .tuple #[(decS s.data.toList).ag, .int .i64 (decSE s.data.toList)]) ?_ rfl ⟨rfl, ?_⟩
      · simp only [results, Tryz.results52]
        unfold decS decSE
        rw [HD.out]
        (try rw [HST.out])
        go_simp
        rfl
      · repeat (with_reducible refine Below.setCell ?_ (by simp only; omega) _)
        exact HS5.out.bel

end Go.Proofs.YtickjmkkgcfkhaaGreat
