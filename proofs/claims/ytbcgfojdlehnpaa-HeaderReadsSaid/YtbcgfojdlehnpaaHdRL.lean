/- Contract of the reference's Decode: the header of bytes. -/
import Derived.Test.YtbcgfojdlehnpaaHdRK
import Derived.Test.YtbcgfojdlehnpaaHdRD
import Derived.Test.YtbcgfojdlehnpaaHdK
import Derived.Test.YtbcgfojdlehnpaaRegion3
set_option linter.unusedSimpArgs false
set_option linter.unusedVariables false
namespace Go.Proofs.Ytbcgfojdlehnpaa
open Go.RowKit Go.ChangeShapes Go.WideShapes

set_option maxRecDepth 100000 in
set_option maxHeartbeats 3200000 in
/-- No header by its first byte. -/
theorem rhdecode_first (s : ByteArray) (W : World) (hb : s.size = 0 ∨ (0 < s.size ∧ (seg s.data.toList 0 1 < 16 ∨ 21 < seg s.data.toList 0 1))) :
    Calls Try.prog 10 #[.string s] W fun e W' => e = .returned (.tuple #[Hd.zero.ag, .int .i64 4]) ∧ Below W.heap.size W W' := by
  obtain ⟨W1, hW1⟩ : ∃ W1, W1 = W.alloc (.cells #[.int .i64 0, .int .i64 0, .int .u32 0, .int .i64 0, .int .i64 0, .int .i64 0, .int .u32 0, .int .u64 0, .int .u64 0, .int .u64 0, .int .u64 0] 27) := ⟨_, rfl⟩
  have hb1 : Below W.heap.size W W1 := by rw [hW1]; exact (Below.refl _ _).alloc (Nat.le_refl _) _
  have hbx : ZH W.heap.size W1 := by rw [hW1]; exact heap_alloc_new _ _
  obtain ⟨x0, x1, x2, x3, x4, x5, x6, x7, x8, x9, x10⟩ := hbx.cells
  obtain ⟨f0, f1, f2, f3, f4, f5, f6, f7, f8, f9, f10⟩ := BoxH.frozen hbx
  rw [hW1] at x0 x1 x2 x3 x4 x5 x6 x7 x8 x9 x10 f0 f1 f2 f3 f4 f5 f6 f7 f8 f9 f10
  have HW1 := Lib.hid hW1
  have HB1 := Lib.hid hb1
  clear hW1 hb1 hbx
  have em : ∀ t : ByteArray, t.toList.isEmpty = decide (t.size = 0) := fun t => by
    rw [ByteArray.toList_eq, ← size_eq]
    cases t.data.toList <;> simp
  rcases hb with h0 | ⟨h0, h1⟩
  · have hem : ((s.size : Int) == 0) = true := by rw [h0]; rfl
    clear em h0
    go_enter Try.func10, Try.ntmps10
    go_wp2_with fail
    refine bodyPost_ret (v := .tuple #[.agg #[.int .i64 0, .int .i64 0, .int .u32 0, .int .i64 0, .int .i64 0, .int .i64 0, .int .u32 0, .int .u64 0, .int .u64 0, .int .u64 0, .int .u64 0], .int .i64 4]) ?_ rfl ⟨rfl, ?_⟩
    · simp only [results, Try.results10]
      go_simp
    · rw [← HW1.out]
      repeat (with_reducible refine Below.setCell ?_ (by simp only; omega) _)
      exact HB1.out
  · rw [seg_head h0] at h1
    have hem : ((s.size : Int) == 0) = false := by rw [beq_eq_false_iff_ne]; omega
    have h0i : (0 : Int) < (s.size : Int) := by omega
    clear em
    rcases h1 with h1 | h1
    · have hd : decide ((s[0].toNat : Int) < 16) = true := decide_eq_true (by omega)
      go_enter Try.func10, Try.ntmps10
      go_wp2_with fail
      refine bodyPost_ret (v := .tuple #[.agg #[.int .i64 0, .int .i64 0, .int .u32 0, .int .i64 0, .int .i64 0, .int .i64 0, .int .u32 0, .int .u64 0, .int .u64 0, .int .u64 0, .int .u64 0], .int .i64 4]) ?_ rfl ⟨rfl, ?_⟩
      · simp only [results, Try.results10]
        go_simp
      · rw [← HW1.out]
        repeat (with_reducible refine Below.setCell ?_ (by simp only; omega) _)
        exact HB1.out
    · have hd : decide ((s[0].toNat : Int) < 16) = false := decide_eq_false (by omega)
      have hd2 : decide (21 < (s[0].toNat : Int)) = true := decide_eq_true (by omega)
      go_enter Try.func10, Try.ntmps10
      go_wp2_with fail
      refine bodyPost_ret (v := .tuple #[.agg #[.int .i64 0, .int .i64 0, .int .u32 0, .int .i64 0, .int .i64 0, .int .i64 0, .int .u32 0, .int .u64 0, .int .u64 0, .int .u64 0, .int .u64 0], .int .i64 4]) ?_ rfl ⟨rfl, ?_⟩
      · simp only [results, Try.results10]
        go_simp
      · rw [← HW1.out]
        repeat (with_reducible refine Below.setCell ?_ (by simp only; omega) _)
        exact HB1.out

structure DrZ (W : World) (V : World) : Prop where
  z : BoxV W.heap.size 0 0 0 0 0 0 0 0 0 0 0 V
  bel : Below W.heap.size W V
theorem DrZ.later {W V X : World} (x : DrZ W V) (hb : Below V.heap.size V X) : DrZ W X := ⟨x.z.later hb, x.bel.trans (hb.mono x.bel.size)⟩
structure DrS (W : World) (g : Nat) (w st en hp sr gp id a0 a1 a2 a3 : Int) (V : World) : Prop where
  z : BoxV W.heap.size 0 0 0 0 0 0 0 0 0 0 0 V
  h : BoxV g w st en hp sr gp id a0 a1 a2 a3 V
  bel : Below W.heap.size W V
  hi : W.heap.size < g
theorem DrS.later {W V X : World} {g : Nat} {w st en hp sr gp id a0 a1 a2 a3 : Int} (x : DrS W g w st en hp sr gp id a0 a1 a2 a3 V) (hb : Below V.heap.size V X) : DrS W g w st en hp sr gp id a0 a1 a2 a3 X :=
  ⟨x.z.later hb, x.h.later hb, x.bel.trans (hb.mono x.bel.size), x.hi⟩
theorem DrS.set7 {W V : World} {g : Nat} {w st en hp sr gp id a0 a1 a2 a3 : Int} (q : DrS W g w st en hp sr gp id a0 a1 a2 a3 V) (x : Int) : DrS W g w st en hp sr gp id x a1 a2 a3 (V.setCell ⟨g, 7, none⟩ (.int .u64 x)) := ⟨q.z.other _ _ _ (by have := q.hi; omega), q.h.set7 x, q.bel.setCell (by have := q.hi; simp only; omega) _, q.hi⟩
theorem DrS.set8 {W V : World} {g : Nat} {w st en hp sr gp id a0 a1 a2 a3 : Int} (q : DrS W g w st en hp sr gp id a0 a1 a2 a3 V) (x : Int) : DrS W g w st en hp sr gp id a0 x a2 a3 (V.setCell ⟨g, 8, none⟩ (.int .u64 x)) := ⟨q.z.other _ _ _ (by have := q.hi; omega), q.h.set8 x, q.bel.setCell (by have := q.hi; simp only; omega) _, q.hi⟩
theorem DrS.set9 {W V : World} {g : Nat} {w st en hp sr gp id a0 a1 a2 a3 : Int} (q : DrS W g w st en hp sr gp id a0 a1 a2 a3 V) (x : Int) : DrS W g w st en hp sr gp id a0 a1 x a3 (V.setCell ⟨g, 9, none⟩ (.int .u64 x)) := ⟨q.z.other _ _ _ (by have := q.hi; omega), q.h.set9 x, q.bel.setCell (by have := q.hi; simp only; omega) _, q.hi⟩
theorem DrS.set10 {W V : World} {g : Nat} {w st en hp sr gp id a0 a1 a2 a3 : Int} (q : DrS W g w st en hp sr gp id a0 a1 a2 a3 V) (x : Int) : DrS W g w st en hp sr gp id a0 a1 a2 x (V.setCell ⟨g, 10, none⟩ (.int .u64 x)) := ⟨q.z.other _ _ _ (by have := q.hi; omega), q.h.set10 x, q.bel.setCell (by have := q.hi; simp only; omega) _, q.hi⟩

set_option maxRecDepth 100000 in
set_option maxHeartbeats 25600000 in
theorem rhdecode_form (s : ByteArray) (c : Nat) (W : World) (h0 : 0 < s.size) (hc : seg s.data.toList 0 1 = 16 + c) (hc5 : c ≤ 5) (hs : s.size ≤ 140737488355000) :
    Calls Try.prog 10 #[.string s] W fun e W' => e = .returned (.tuple #[(decH s).ag, .int .i64 (decHE s)]) ∧ Below W.heap.size W W' := by
  obtain ⟨W1, hW1⟩ : ∃ W1, W1 = W.alloc (.cells #[.int .i64 0, .int .i64 0, .int .u32 0, .int .i64 0, .int .i64 0, .int .i64 0, .int .u32 0, .int .u64 0, .int .u64 0, .int .u64 0, .int .u64 0] 27) := ⟨_, rfl⟩
  obtain ⟨w, hw⟩ : ∃ w, w = 8 * 2 ^ c := ⟨_, rfl⟩
  have hp1 : 1 ≤ 2 ^ c := Nat.pow_pos (by decide)
  have hp2 : 2 ^ c ≤ 32 := Nat.le_trans (Nat.pow_le_pow_right (by decide) hc5) (by decide)
  have hb1 : Below W.heap.size W W1 := by rw [hW1]; exact (Below.refl _ _).alloc (Nat.le_refl _) _
  have hbz : BoxV W.heap.size 0 0 0 0 0 0 0 0 0 0 0 W1 := by rw [hW1]; exact heap_alloc_new _ _
  have HZ2 := Lib.hid (show DrZ W W1 from ⟨hbz, hb1⟩)
  have hwd : wide ((w : Nat) : Int) = true := by rw [hw]; exact (wide_code hc5).1
  have HSZ := Lib.hid (fun V => hrsize_any (w : Int) V)
  obtain ⟨n, hn⟩ : ∃ n, n = 15 + 2 ^ c := ⟨_, rfl⟩
  have hsv : sizeV (w : Int) = (n : Int) := by rw [sizeV, if_pos hwd, hw, hn]; omega
  have hem : ((s.size : Int) == 0) = false := by rw [beq_eq_false_iff_ne]; omega
  have HC := Lib.hid hc
  rw [seg_head h0] at hc
  have h0i : (0 : Int) < (s.size : Int) := by omega
  have d1 : decide ((16 : Int) + (c : Int) < 16) = false := decide_eq_false (by omega)
  have d2 : decide ((21 : Int) < 16 + (c : Int)) = false := decide_eq_false (by omega)
  have d3 : IntKind.i64.wrap (8 * 2 ^ c) = (w : Int) := by rw [show (8 * 2 ^ c : Int) = ((8 * 2 ^ c : Nat) : Int) from by simp, ← hw]; exact IntWalk.i64_in _ (by omega)
  have d4 : wrap64 (8 * 2 ^ c) = (w : Int) := by unfold wrap64; rw [show (8 * 2 ^ c : Int) = ((8 * 2 ^ c : Nat) : Int) from by simp, ← hw]; omega
  have HFM := Lib.hid (show formH s.data.toList = decide (s.size = n) by
    unfold formH
    rw [HC.out, size_eq, show 16 + c - 16 = c from by omega, ← hn, decide_eq_true (show 16 ≤ 16 + c by omega), decide_eq_true (show 16 + c ≤ 21 by omega), decide_eq_true h0]
    rfl)
  have HSV := Lib.hid hsv
  have HW1 := Lib.hid hW1
  have HWW := Lib.hid hw
  have HN := Lib.hid hn
  have HOP := Lib.hid (fun V => ropen_any s V (by omega))
  clear hW1 hb1 hbz hsv hwd hw hn
  go_enter Try.func10, Try.ntmps10
  go_wp2_with fail
  rw [← HW1.out]
  refine (HSZ.out _).mono ?_
  rintro e V ⟨rfl, rfl⟩
  rw [HSV.out]
  by_cases hl : s.size = n
  case neg =>
    have ht : ((s.size : Int) != (n : Int)) = true := by rw [bne_iff_ne]; omega
    have HR := Lib.hid (show decH s = Hd.zero ∧ decHE s = 4 by
      have hf : formH s.data.toList = false := by rw [HFM.out]; exact decide_eq_false hl
      exact ⟨by rw [decH, if_neg (fun h => by rw [hf] at h; exact absurd h.1 (by decide))], by rw [decHE, hf]; rfl⟩)
    obtain ⟨y0, y1, y2, y3, y4, y5, y6, y7, y8, y9, y10⟩ := HZ2.out.z.cells
    obtain ⟨f0, f1, f2, f3, f4, f5, f6, f7, f8, f9, f10⟩ := HZ2.out.z.frozen
    clear hl
    go_wp2_with fail
    refine bodyPost_ret (v := .tuple #[.agg #[.int .i64 0, .int .i64 0, .int .u32 0, .int .i64 0, .int .i64 0, .int .i64 0, .int .u32 0, .int .u64 0, .int .u64 0, .int .u64 0, .int .u64 0], .int .i64 (4)]) ?_ rfl ⟨?_, ?_⟩
    · simp only [results, Try.results10]
      go_simp
    · rw [HR.out.1, HR.out.2]; rfl
    · repeat (with_reducible refine Below.setCell ?_ (by simp only; omega) _)
      exact HZ2.out.bel

  have hl2 := hl
  have ht : ((s.size : Int) != (n : Int)) = false := by rw [bne_eq_false_iff_eq]; omega
  have HF2 := Lib.hid (show formH s.data.toList = true by rw [HFM.out]; exact decide_eq_true hl)
  clear hl
  go_wp2_with fail
  refine (HOP.out _).mono ?_
  rintro e V ⟨rfl, hb⟩
  have HZ3 := Lib.hid (HZ2.out.later hb)
  clear hb
  by_cases ho : openE s = 0
  case neg =>
    have ht2 : (openE s != 0) = true := by rw [bne_iff_ne]; exact ho
    have HR := Lib.hid (show decH s = Hd.zero ∧ decHE s = openE s by
      exact ⟨by rw [decH, if_neg (fun h => ho h.2.1)], by rw [decHE, if_pos HF2.out, if_neg ho]⟩)
    obtain ⟨y0, y1, y2, y3, y4, y5, y6, y7, y8, y9, y10⟩ := HZ3.out.z.cells
    obtain ⟨f0, f1, f2, f3, f4, f5, f6, f7, f8, f9, f10⟩ := HZ3.out.z.frozen
    go_wp2_with fail
    refine bodyPost_ret (v := .tuple #[.agg #[.int .i64 0, .int .i64 0, .int .u32 0, .int .i64 0, .int .i64 0, .int .i64 0, .int .u32 0, .int .u64 0, .int .u64 0, .int .u64 0, .int .u64 0], .int .i64 (openE s)]) ?_ rfl ⟨?_, ?_⟩
    · simp only [results, Try.results10]
      go_simp
    · rw [HR.out.1, HR.out.2]; rfl
    · repeat (with_reducible refine Below.setCell ?_ (by simp only; omega) _)
      exact HZ3.out.bel

  obtain ⟨hop1, hop2⟩ := open_sealB ho
  have hol := open_list ho
  have HSG := Lib.hid (show seg (openS s).data.toList 0 1 = 16 + c by
    rw [← HC.out, hol]
    exact (seg_append (by rw [size_eq]; have := HN.out; omega)).symm)
  have HFF := Lib.hid (show decH s = (if (candH (openS s).data.toList).chk = true then candH (openS s).data.toList else Hd.zero) ∧ decHE s = (if (candH (openS s).data.toList).chk = true then 0 else 4) by
    constructor
    · rw [decH]
      by_cases hk : (candH (openS s).data.toList).chk = true
      · rw [if_pos ⟨HF2.out, ho, hk⟩, if_pos hk]
      · rw [if_neg (fun h => hk h.2.2), if_neg hk]
    · rw [decHE, if_pos HF2.out, if_pos ho])
  rw [ho]
  obtain ⟨t, htt⟩ : ∃ t, t = openS s := ⟨_, rfl⟩
  rw [← htt] at HSG HFF hop2 ⊢
  have hts : t.size = 13 + 2 ^ c := by have := HN.out; omega
  clear hop1 hop2 hol ho htt ht HF2
  obtain ⟨st, hst⟩ : ∃ x, x = seg t.data.toList 1 1 := ⟨_, rfl⟩
  have bst : st < 256 := by have := seg_lt t.data.toList 1 1; rw [← hst] at this; simpa using this
  have wst : IntKind.i64.wrap (st : Int) = (st : Int) := IntWalk.i64_in _ (by omega)
  have zst : 1 < t.size := by omega
  have zist : (1 : Int) < (t.size : Int) := by omega
  have HTst := Lib.hid hst
  have est : t[1].toNat = st := by rw [hst]; exact (seg_one zst).symm
  obtain ⟨hp, hhp⟩ : ∃ x, x = seg t.data.toList 6 1 := ⟨_, rfl⟩
  have bhp : hp < 256 := by have := seg_lt t.data.toList 6 1; rw [← hhp] at this; simpa using this
  have whp : IntKind.i64.wrap (hp : Int) = (hp : Int) := IntWalk.i64_in _ (by omega)
  have zhp : 6 < t.size := by omega
  have zihp : (6 : Int) < (t.size : Int) := by omega
  have HThp := Lib.hid hhp
  have ehp : t[6].toNat = hp := by rw [hhp]; exact (seg_one zhp).symm
  obtain ⟨sr, hsr⟩ : ∃ x, x = seg t.data.toList 7 1 := ⟨_, rfl⟩
  have bsr : sr < 256 := by have := seg_lt t.data.toList 7 1; rw [← hsr] at this; simpa using this
  have wsr : IntKind.i64.wrap (sr : Int) = (sr : Int) := IntWalk.i64_in _ (by omega)
  have zsr : 7 < t.size := by omega
  have zisr : (7 : Int) < (t.size : Int) := by omega
  have HTsr := Lib.hid hsr
  have esr : t[7].toNat = sr := by rw [hsr]; exact (seg_one zsr).symm
  obtain ⟨gp, hgp⟩ : ∃ x, x = seg t.data.toList 8 1 := ⟨_, rfl⟩
  have bgp : gp < 256 := by have := seg_lt t.data.toList 8 1; rw [← hgp] at this; simpa using this
  have wgp : IntKind.i64.wrap (gp : Int) = (gp : Int) := IntWalk.i64_in _ (by omega)
  have zgp : 8 < t.size := by omega
  have zigp : (8 : Int) < (t.size : Int) := by omega
  have HTgp := Lib.hid hgp
  have egp : t[8].toNat = gp := by rw [hgp]; exact (seg_one zgp).symm
  obtain ⟨en, hen⟩ : ∃ x, x = seg t.data.toList 2 4 := ⟨_, rfl⟩
  have ben : en < 4294967296 := by have := seg_lt t.data.toList 2 4; rw [← hen] at this; simpa using this
  have HTen := Lib.hid hen
  have zen : 6 ≤ t.size := by omega
  have zien : (6 : Int) ≤ (t.size : Int) := by omega
  have HN1 := Lib.hid (show ∀ V, Calls Try.prog 32 #[.string (t.extract 2 6)] V fun e V' => e = .returned (.int .u32 en) ∧ Below V.heap.size V V' from fun V => by
    have h1 := number_any (t.extract 2 6) V (by rw [ByteArray.size_extract]; omega)
    have h2 : (t.extract 2 6).data.toList = (t.data.toList.drop 2).take 4 := by
      rw [ByteArray.data_extract, Array.toList_extract, List.extract]
    rw [h2] at h1
    rw [hen]
    exact h1)
  obtain ⟨id, hid⟩ : ∃ x, x = seg t.data.toList 9 4 := ⟨_, rfl⟩
  have bid : id < 4294967296 := by have := seg_lt t.data.toList 9 4; rw [← hid] at this; simpa using this
  have HTid := Lib.hid hid
  have zid : 13 ≤ t.size := by omega
  have ziid : (13 : Int) ≤ (t.size : Int) := by omega
  have HN2 := Lib.hid (show ∀ V, Calls Try.prog 32 #[.string (t.extract 9 13)] V fun e V' => e = .returned (.int .u32 id) ∧ Below V.heap.size V V' from fun V => by
    have h1 := number_any (t.extract 9 13) V (by rw [ByteArray.size_extract]; omega)
    have h2 : (t.extract 9 13).data.toList = (t.data.toList.drop 9).take 4 := by
      rw [ByteArray.data_extract, Array.toList_extract, List.extract]
    rw [h2] at h1
    rw [hid]
    exact h1)
  obtain ⟨q, hq⟩ : ∃ q, q = t.extract 13 (13 + 2 ^ c) := ⟨_, rfl⟩
  have hqs : q.size = 2 ^ c := by rw [hq, ByteArray.size_extract]; omega
  have hql : q.data.toList = t.data.toList.drop 13 := by
    have hlt : t.data.toList.length = 13 + 2 ^ c := by rw [size_eq]; exact hts
    rw [hq, ByteArray.data_extract, Array.toList_extract, List.extract, show 13 + 2 ^ c - 13 = 2 ^ c from by omega]
    exact List.take_of_length_le (by rw [List.length_drop, hlt]; omega)
  obtain ⟨x, hx⟩ : ∃ x, x = Bt.of (leVal (t.data.toList.drop 13)) := ⟨_, rfl⟩
  have hxo : x.ok := hx ▸ Bt.of_ok _
  have HRD := Lib.hid (show ∀ V, Calls Try.prog 33 #[.string (t.extract 13 t.size)] V fun e V' => e = .returned (.tuple #[.agg #[.int .u64 x.a, .int .u64 x.b, .int .u64 x.c, .int .u64 x.d], .int .i64 0]) ∧ Below V.heap.size V V' from fun V => by
    have hrd := rbread_any q V (by omega) (by omega)
    rw [hql, ← hx] at hrd
    rw [hts, ← hq]
    exact hrd)
  have HCD := Lib.hid (show candH t.data.toList = ⟨(w : Int), (st : Int), en, (hp : Int), (sr : Int), (gp : Int), id, x⟩ by
    unfold candH
    rw [HSG.out, show 16 + c - 16 = c from by omega, ← HWW.out, ← HTst.out, ← HTen.out, ← HThp.out, ← HTsr.out, ← HTgp.out, ← HTid.out, ← hx])
  have hwb : w < 1000 := by have := HWW.out; omega
  have HQ := Lib.hid (show (⟨(w : Int), (st : Int), en, (hp : Int), (sr : Int), (gp : Int), id, x⟩ : Hd).ok from
    ⟨i64_nat hwb, i64_nat (by omega), ben, i64_nat (by omega), i64_nat (by omega), i64_nat (by omega), bid, hxo⟩)
  have HCK := Lib.hid (fun V => rhcheck_any ⟨(w : Int), (st : Int), en, (hp : Int), (sr : Int), (gp : Int), id, x⟩ V HQ.out)
  unfold Hd.ag Hd.cs at HCK
  simp only at HCK
  have z13 : 13 ≤ t.size := by omega
  have z13i : (13 : Int) ≤ (t.size : Int) := by omega
  obtain ⟨X0, hX0⟩ : ∃ X, X = V.drew := ⟨_, rfl⟩
  have HS0 := Lib.hid (show DrZ W X0 by rw [hX0]; exact HZ3.out.later ⟨rfl, rfl, rfl, Nat.le_refl _, fun _ _ => rfl⟩)
  have HX0 := Lib.hid hX0
  clear hts hq hqs hql hx hxo hX0 hst hhp hsr hgp hen hid bst bhp bsr bgp ben bid
  go_wp2_with fail
  refine wp_region_tree (.look 0 (.look 1 (.look 2 (.look 3 (.look 4 (.look 5 (.look 7 (.look 8 (.look 9 (.look 10 (.look 11 (.look 12 (.look 13 (.look 14 (.look 15 (.look 16 (.look 17 (.two 6 (.two 18 (.look 19 (.one 20 (.one 21 .nil))) 20 (.one 18 (.look 19 (.one 21 .nil)))) 20 (.one 6 (.one 18 (.look 19 (.one 21 .nil)))))))))))))))))))))) (DrZ W) (by kernel_rfl) (by kernel_rfl) (by decide) (by kernel_rfl) (fun d _ _ _ _ h => by cases d <;> exact h) (by rw [← HX0.out]; exact HS0.out) ?_
  rw [← HX0.out]
  iterate 17 ((apply wpOT_take rfl rfl (by kernel_rfl); (intro V _; go_simp; rfl)); (try simp only [List.setIfInBounds_toArray, List.set_cons_succ, List.set_cons_zero]))
  apply wpOT_two
  · skip
    apply wpOT_do rfl (by kernel_rfl)
    intro K hK
    go_simp
    refine (HN1.out _).mono ?_
    rintro e X1 ⟨rfl, hb⟩
    have HS1 := Lib.hid (HS0.out.later hb)
    refine hK _ _ HS1.out ?_
    clear hK K hb
    apply wpOT_two
    · skip
      apply wpOT_do rfl (by kernel_rfl)
      intro K hK
      go_simp
      refine (HN2.out _).mono ?_
      rintro e X2 ⟨rfl, hb⟩
      have HS2 := Lib.hid (HS1.out.later hb)
      refine hK _ _ HS2.out ?_
      clear hK K hb
      iterate 1 ((apply wpOT_take rfl rfl (by kernel_rfl); (intro V _; go_simp; rfl)); (try simp only [List.setIfInBounds_toArray, List.set_cons_succ, List.set_cons_zero]))
      apply wpOT_do rfl (by kernel_rfl)
      intro K hK
      go_simp
      obtain ⟨X3, hX3⟩ : ∃ X, X = X2.alloc (.cells #[.int .i64 0, .int .i64 0, .int .u32 0, .int .i64 0, .int .i64 0, .int .i64 0, .int .u32 0, .int .u64 0, .int .u64 0, .int .u64 0, .int .u64 0] 27) := ⟨_, rfl⟩
      obtain ⟨g, hg⟩ : ∃ g, g = X2.heap.size := ⟨_, rfl⟩
      have HS3 := Lib.hid (show DrZ W X3 by rw [hX3]; exact HS2.out.later ((Below.refl _ _).alloc (Nat.le_refl _) _))
      have HG3 := Lib.hid (show BoxV g 0 0 0 0 0 0 0 0 0 0 0 X3 by rw [hX3, hg]; exact heap_alloc_new _ _)
      have HGL := Lib.hid (show W.heap.size < g by
        have h1 := HS2.out.z
        rw [hg]; exact (Array.getElem?_eq_some_iff.1 h1).1)
      rw [← hX3, ← hg]
      refine hK _ _ HS3.out ?_
      clear hK K hX3 hg
      apply wpOT_do rfl (by kernel_rfl)
      intro K hK
      obtain ⟨y0, y1, y2, y3, y4, y5, y6, y7, y8, y9, y10⟩ := HG3.out.cells
      obtain ⟨f0, f1, f2, f3, f4, f5, f6, f7, f8, f9, f10⟩ := HG3.out.frozen
      go_simp
      obtain ⟨U, hU⟩ : ∃ U, U = (((((((((((X3.setCell ⟨g, 0, none⟩ (.int .i64 (w : Int))).setCell ⟨g, 1, none⟩ (.int .i64 (st : Int))).setCell ⟨g, 2, none⟩ (.int .u32 (en : Int))).setCell ⟨g, 3, none⟩ (.int .i64 (hp : Int))).setCell ⟨g, 4, none⟩ (.int .i64 (sr : Int))).setCell ⟨g, 5, none⟩ (.int .i64 (gp : Int))).setCell ⟨g, 6, none⟩ (.int .u32 (id : Int))).setCell ⟨g, 7, none⟩ (.int .u64 0)).setCell ⟨g, 8, none⟩ (.int .u64 0)).setCell ⟨g, 9, none⟩ (.int .u64 0)).setCell ⟨g, 10, none⟩ (.int .u64 0)) := ⟨_, rfl⟩
      have hgl := HGL.out
      have HD0 := Lib.hid (show DrS W g (w : Int) (st : Int) (en : Int) (hp : Int) (sr : Int) (gp : Int) (id : Int) 0 0 0 0 U from ⟨by
        rw [hU]
        exact (((((((((((HS3.out.z.other _ _ _ (by omega)).other _ _ _ (by omega)).other _ _ _ (by omega)).other _ _ _ (by omega)).other _ _ _ (by omega)).other _ _ _ (by omega)).other _ _ _ (by omega)).other _ _ _ (by omega)).other _ _ _ (by omega)).other _ _ _ (by omega)).other _ _ _ (by omega)), by rw [hU]; exact (((((((((((HG3.out.set0 _).set1 _).set2 _).set3 _).set4 _).set5 _).set6 _).set7 _).set8 _).set9 _).set10 _), by
        rw [hU]
        repeat (with_reducible refine Below.setCell ?_ (by simp only; omega) _)
        exact HS3.out.bel, hgl⟩)
      rw [← hU]
      refine hK _ _ ⟨HD0.out.z, HD0.out.bel⟩ ?_
      clear hK K y0 y1 y2 y3 y4 y5 y6 y7 y8 y9 y10 f0 f1 f2 f3 f4 f5 f6 f7 f8 f9 f10 hU
      refine wpOT_nil ?_
      obtain ⟨y0, y1, y2, y3, y4, y5, y6, y7, y8, y9, y10⟩ := HD0.out.h.cells
      go_wp2_with fail
      refine (HRD.out _).mono ?_
      rintro e V7 ⟨rfl, hb⟩
      have HS7 := Lib.hid (HD0.out.later hb)
      clear hb y0 y1 y2 y3 y4 y5 y6 y7 y8 y9 y10
      obtain ⟨y0, y1, y2, y3, y4, y5, y6, y7, y8, y9, y10⟩ := HS7.out.h.cells
      obtain ⟨f0, f1, f2, f3, f4, f5, f6, f7, f8, f9, f10⟩ := HS7.out.h.frozen
      have hgl7 := HS7.out.hi
      have HS8 := Lib.hid ((((HS7.out.set7 (x.a : Int)).set8 (x.b : Int)).set9 (x.c : Int)).set10 (x.d : Int))
      obtain ⟨U7, hU7⟩ : ∃ U, U = (((V7.setCell ⟨g, 7, none⟩ (.int .u64 (x.a : Int))).setCell ⟨g, 8, none⟩ (.int .u64 (x.b : Int))).setCell ⟨g, 9, none⟩ (.int .u64 (x.c : Int))).setCell ⟨g, 10, none⟩ (.int .u64 (x.d : Int)) := ⟨_, rfl⟩
      rw [← hU7] at HS8
      have HU7 := Lib.hid hU7
      clear hU7
      obtain ⟨z0, z1, z2, z3, z4, z5, z6, z7, z8, z9, z10⟩ := HS8.out.h.cells
      rw [HU7.out] at z0 z1 z2 z3 z4 z5 z6 z7 z8 z9 z10
      go_wp2_with fail
      rw [← HU7.out]
      clear y0 y1 y2 y3 y4 y5 y6 y7 y8 y9 y10 f0 f1 f2 f3 f4 f5 f6 f7 f8 f9 f10 z0 z1 z2 z3 z4 z5 z6 z7 z8 z9 z10
      refine (HCK.out _).mono ?_
      rintro e V8 ⟨rfl, hb⟩
      have HS9 := Lib.hid (HS8.out.later hb)
      clear hb
      obtain ⟨y0, y1, y2, y3, y4, y5, y6, y7, y8, y9, y10⟩ := HS9.out.h.cells
      obtain ⟨z0, z1, z2, z3, z4, z5, z6, z7, z8, z9, z10⟩ := HS9.out.z.cells
      obtain ⟨f0, f1, f2, f3, f4, f5, f6, f7, f8, f9, f10⟩ := HS9.out.z.frozen
      by_cases hk : Hd.chk ⟨(w : Int), (st : Int), en, (hp : Int), (sr : Int), (gp : Int), id, x⟩ = true
      · have HR := Lib.hid (show decH s = ⟨(w : Int), (st : Int), en, (hp : Int), (sr : Int), (gp : Int), id, x⟩ ∧ decHE s = 0 by
          have h1 := HFF.out
          rw [HCD.out, if_pos hk, if_pos hk] at h1
          exact h1)
        have HER := Lib.hid (show Hd.err ⟨(w : Int), (st : Int), en, (hp : Int), (sr : Int), (gp : Int), id, x⟩ = 0 by rw [Hd.err, if_pos hk])
        clear hk
        rw [HER.out]
        go_wp2_with fail
        refine bodyPost_ret (v := .tuple #[.agg #[.int .i64 w, .int .i64 st, .int .u32 en, .int .i64 hp, .int .i64 sr, .int .i64 gp, .int .u32 id, .int .u64 x.a, .int .u64 x.b, .int .u64 x.c, .int .u64 x.d], .int .i64 0]) ?_ rfl ⟨?_, ?_⟩
        · simp only [results, Try.results10]
          go_simp
        · rw [HR.out.1, HR.out.2]; rfl
        · repeat (with_reducible refine Below.setCell ?_ (by simp only; omega) _)
          exact HS9.out.bel
      · have HR := Lib.hid (show decH s = Hd.zero ∧ decHE s = 4 by
          have h1 := HFF.out
          rw [HCD.out, if_neg hk, if_neg hk] at h1
          exact h1)
        have HER := Lib.hid (show Hd.err ⟨(w : Int), (st : Int), en, (hp : Int), (sr : Int), (gp : Int), id, x⟩ = 2 by rw [Hd.err, if_neg hk])
        clear hk
        rw [HER.out]
        go_wp2_with fail
        refine bodyPost_ret (v := .tuple #[.agg #[.int .i64 0, .int .i64 0, .int .u32 0, .int .i64 0, .int .i64 0, .int .i64 0, .int .u32 0, .int .u64 0, .int .u64 0, .int .u64 0, .int .u64 0], .int .i64 (4)]) ?_ rfl ⟨?_, ?_⟩
        · simp only [results, Try.results10]
          go_simp
        · rw [HR.out.1, HR.out.2]; rfl
        · repeat (with_reducible refine Below.setCell ?_ (by simp only; omega) _)
          exact HS9.out.bel

    · skip
      apply wpOT_do rfl (by kernel_rfl)
      intro K hK
      go_simp
      obtain ⟨X4, hX4⟩ : ∃ X, X = X1.alloc (.cells #[.int .i64 0, .int .i64 0, .int .u32 0, .int .i64 0, .int .i64 0, .int .i64 0, .int .u32 0, .int .u64 0, .int .u64 0, .int .u64 0, .int .u64 0] 27) := ⟨_, rfl⟩
      obtain ⟨g, hg⟩ : ∃ g, g = X1.heap.size := ⟨_, rfl⟩
      have HS4 := Lib.hid (show DrZ W X4 by rw [hX4]; exact HS1.out.later ((Below.refl _ _).alloc (Nat.le_refl _) _))
      have HG4 := Lib.hid (show BoxV g 0 0 0 0 0 0 0 0 0 0 0 X4 by rw [hX4, hg]; exact heap_alloc_new _ _)
      have HGL := Lib.hid (show W.heap.size < g by
        have h1 := HS1.out.z
        rw [hg]; exact (Array.getElem?_eq_some_iff.1 h1).1)
      rw [← hX4, ← hg]
      refine hK _ _ HS4.out ?_
      clear hK K hX4 hg
      apply wpOT_do rfl (by kernel_rfl)
      intro K hK
      go_simp
      refine (HN2.out _).mono ?_
      rintro e X5 ⟨rfl, hb⟩
      have HS5 := Lib.hid (HS4.out.later hb)
      have HG5 := Lib.hid (HG4.out.later hb)
      refine hK _ _ HS5.out ?_
      clear hK K hb
      iterate 1 ((apply wpOT_take rfl rfl (by kernel_rfl); (intro V _; go_simp; rfl)); (try simp only [List.setIfInBounds_toArray, List.set_cons_succ, List.set_cons_zero]))
      apply wpOT_do rfl (by kernel_rfl)
      intro K hK
      obtain ⟨y0, y1, y2, y3, y4, y5, y6, y7, y8, y9, y10⟩ := HG5.out.cells
      obtain ⟨f0, f1, f2, f3, f4, f5, f6, f7, f8, f9, f10⟩ := HG5.out.frozen
      go_simp
      obtain ⟨U, hU⟩ : ∃ U, U = (((((((((((X5.setCell ⟨g, 0, none⟩ (.int .i64 (w : Int))).setCell ⟨g, 1, none⟩ (.int .i64 (st : Int))).setCell ⟨g, 2, none⟩ (.int .u32 (en : Int))).setCell ⟨g, 3, none⟩ (.int .i64 (hp : Int))).setCell ⟨g, 4, none⟩ (.int .i64 (sr : Int))).setCell ⟨g, 5, none⟩ (.int .i64 (gp : Int))).setCell ⟨g, 6, none⟩ (.int .u32 (id : Int))).setCell ⟨g, 7, none⟩ (.int .u64 0)).setCell ⟨g, 8, none⟩ (.int .u64 0)).setCell ⟨g, 9, none⟩ (.int .u64 0)).setCell ⟨g, 10, none⟩ (.int .u64 0)) := ⟨_, rfl⟩
      have hgl := HGL.out
      have HD0 := Lib.hid (show DrS W g (w : Int) (st : Int) (en : Int) (hp : Int) (sr : Int) (gp : Int) (id : Int) 0 0 0 0 U from ⟨by
        rw [hU]
        exact (((((((((((HS5.out.z.other _ _ _ (by omega)).other _ _ _ (by omega)).other _ _ _ (by omega)).other _ _ _ (by omega)).other _ _ _ (by omega)).other _ _ _ (by omega)).other _ _ _ (by omega)).other _ _ _ (by omega)).other _ _ _ (by omega)).other _ _ _ (by omega)).other _ _ _ (by omega)), by rw [hU]; exact (((((((((((HG5.out.set0 _).set1 _).set2 _).set3 _).set4 _).set5 _).set6 _).set7 _).set8 _).set9 _).set10 _), by
        rw [hU]
        repeat (with_reducible refine Below.setCell ?_ (by simp only; omega) _)
        exact HS5.out.bel, hgl⟩)
      rw [← hU]
      refine hK _ _ ⟨HD0.out.z, HD0.out.bel⟩ ?_
      clear hK K y0 y1 y2 y3 y4 y5 y6 y7 y8 y9 y10 f0 f1 f2 f3 f4 f5 f6 f7 f8 f9 f10 hU
      refine wpOT_nil ?_
      obtain ⟨y0, y1, y2, y3, y4, y5, y6, y7, y8, y9, y10⟩ := HD0.out.h.cells
      go_wp2_with fail
      refine (HRD.out _).mono ?_
      rintro e V7 ⟨rfl, hb⟩
      have HS7 := Lib.hid (HD0.out.later hb)
      clear hb y0 y1 y2 y3 y4 y5 y6 y7 y8 y9 y10
      obtain ⟨y0, y1, y2, y3, y4, y5, y6, y7, y8, y9, y10⟩ := HS7.out.h.cells
      obtain ⟨f0, f1, f2, f3, f4, f5, f6, f7, f8, f9, f10⟩ := HS7.out.h.frozen
      have hgl7 := HS7.out.hi
      have HS8 := Lib.hid ((((HS7.out.set7 (x.a : Int)).set8 (x.b : Int)).set9 (x.c : Int)).set10 (x.d : Int))
      obtain ⟨U7, hU7⟩ : ∃ U, U = (((V7.setCell ⟨g, 7, none⟩ (.int .u64 (x.a : Int))).setCell ⟨g, 8, none⟩ (.int .u64 (x.b : Int))).setCell ⟨g, 9, none⟩ (.int .u64 (x.c : Int))).setCell ⟨g, 10, none⟩ (.int .u64 (x.d : Int)) := ⟨_, rfl⟩
      rw [← hU7] at HS8
      have HU7 := Lib.hid hU7
      clear hU7
      obtain ⟨z0, z1, z2, z3, z4, z5, z6, z7, z8, z9, z10⟩ := HS8.out.h.cells
      rw [HU7.out] at z0 z1 z2 z3 z4 z5 z6 z7 z8 z9 z10
      go_wp2_with fail
      rw [← HU7.out]
      clear y0 y1 y2 y3 y4 y5 y6 y7 y8 y9 y10 f0 f1 f2 f3 f4 f5 f6 f7 f8 f9 f10 z0 z1 z2 z3 z4 z5 z6 z7 z8 z9 z10
      refine (HCK.out _).mono ?_
      rintro e V8 ⟨rfl, hb⟩
      have HS9 := Lib.hid (HS8.out.later hb)
      clear hb
      obtain ⟨y0, y1, y2, y3, y4, y5, y6, y7, y8, y9, y10⟩ := HS9.out.h.cells
      obtain ⟨z0, z1, z2, z3, z4, z5, z6, z7, z8, z9, z10⟩ := HS9.out.z.cells
      obtain ⟨f0, f1, f2, f3, f4, f5, f6, f7, f8, f9, f10⟩ := HS9.out.z.frozen
      by_cases hk : Hd.chk ⟨(w : Int), (st : Int), en, (hp : Int), (sr : Int), (gp : Int), id, x⟩ = true
      · have HR := Lib.hid (show decH s = ⟨(w : Int), (st : Int), en, (hp : Int), (sr : Int), (gp : Int), id, x⟩ ∧ decHE s = 0 by
          have h1 := HFF.out
          rw [HCD.out, if_pos hk, if_pos hk] at h1
          exact h1)
        have HER := Lib.hid (show Hd.err ⟨(w : Int), (st : Int), en, (hp : Int), (sr : Int), (gp : Int), id, x⟩ = 0 by rw [Hd.err, if_pos hk])
        clear hk
        rw [HER.out]
        go_wp2_with fail
        refine bodyPost_ret (v := .tuple #[.agg #[.int .i64 w, .int .i64 st, .int .u32 en, .int .i64 hp, .int .i64 sr, .int .i64 gp, .int .u32 id, .int .u64 x.a, .int .u64 x.b, .int .u64 x.c, .int .u64 x.d], .int .i64 0]) ?_ rfl ⟨?_, ?_⟩
        · simp only [results, Try.results10]
          go_simp
        · rw [HR.out.1, HR.out.2]; rfl
        · repeat (with_reducible refine Below.setCell ?_ (by simp only; omega) _)
          exact HS9.out.bel
      · have HR := Lib.hid (show decH s = Hd.zero ∧ decHE s = 4 by
          have h1 := HFF.out
          rw [HCD.out, if_neg hk, if_neg hk] at h1
          exact h1)
        have HER := Lib.hid (show Hd.err ⟨(w : Int), (st : Int), en, (hp : Int), (sr : Int), (gp : Int), id, x⟩ = 2 by rw [Hd.err, if_neg hk])
        clear hk
        rw [HER.out]
        go_wp2_with fail
        refine bodyPost_ret (v := .tuple #[.agg #[.int .i64 0, .int .i64 0, .int .u32 0, .int .i64 0, .int .i64 0, .int .i64 0, .int .u32 0, .int .u64 0, .int .u64 0, .int .u64 0, .int .u64 0], .int .i64 (4)]) ?_ rfl ⟨?_, ?_⟩
        · simp only [results, Try.results10]
          go_simp
        · rw [HR.out.1, HR.out.2]; rfl
        · repeat (with_reducible refine Below.setCell ?_ (by simp only; omega) _)
          exact HS9.out.bel

  · skip
    apply wpOT_do rfl (by kernel_rfl)
    intro K hK
    go_simp
    obtain ⟨X6, hX6⟩ : ∃ X, X = X0.alloc (.cells #[.int .i64 0, .int .i64 0, .int .u32 0, .int .i64 0, .int .i64 0, .int .i64 0, .int .u32 0, .int .u64 0, .int .u64 0, .int .u64 0, .int .u64 0] 27) := ⟨_, rfl⟩
    obtain ⟨g, hg⟩ : ∃ g, g = X0.heap.size := ⟨_, rfl⟩
    have HS6 := Lib.hid (show DrZ W X6 by rw [hX6]; exact HS0.out.later ((Below.refl _ _).alloc (Nat.le_refl _) _))
    have HG6 := Lib.hid (show BoxV g 0 0 0 0 0 0 0 0 0 0 0 X6 by rw [hX6, hg]; exact heap_alloc_new _ _)
    have HGL := Lib.hid (show W.heap.size < g by
      have h1 := HS0.out.z
      rw [hg]; exact (Array.getElem?_eq_some_iff.1 h1).1)
    rw [← hX6, ← hg]
    refine hK _ _ HS6.out ?_
    clear hK K hX6 hg
    apply wpOT_do rfl (by kernel_rfl)
    intro K hK
    go_simp
    refine (HN1.out _).mono ?_
    rintro e X7 ⟨rfl, hb⟩
    have HS7 := Lib.hid (HS6.out.later hb)
    have HG7 := Lib.hid (HG6.out.later hb)
    refine hK _ _ HS7.out ?_
    clear hK K hb
    apply wpOT_do rfl (by kernel_rfl)
    intro K hK
    go_simp
    refine (HN2.out _).mono ?_
    rintro e X8 ⟨rfl, hb⟩
    have HS8 := Lib.hid (HS7.out.later hb)
    have HG8 := Lib.hid (HG7.out.later hb)
    refine hK _ _ HS8.out ?_
    clear hK K hb
    iterate 1 ((apply wpOT_take rfl rfl (by kernel_rfl); (intro V _; go_simp; rfl)); (try simp only [List.setIfInBounds_toArray, List.set_cons_succ, List.set_cons_zero]))
    apply wpOT_do rfl (by kernel_rfl)
    intro K hK
    obtain ⟨y0, y1, y2, y3, y4, y5, y6, y7, y8, y9, y10⟩ := HG8.out.cells
    obtain ⟨f0, f1, f2, f3, f4, f5, f6, f7, f8, f9, f10⟩ := HG8.out.frozen
    go_simp
    obtain ⟨U, hU⟩ : ∃ U, U = (((((((((((X8.setCell ⟨g, 0, none⟩ (.int .i64 (w : Int))).setCell ⟨g, 1, none⟩ (.int .i64 (st : Int))).setCell ⟨g, 2, none⟩ (.int .u32 (en : Int))).setCell ⟨g, 3, none⟩ (.int .i64 (hp : Int))).setCell ⟨g, 4, none⟩ (.int .i64 (sr : Int))).setCell ⟨g, 5, none⟩ (.int .i64 (gp : Int))).setCell ⟨g, 6, none⟩ (.int .u32 (id : Int))).setCell ⟨g, 7, none⟩ (.int .u64 0)).setCell ⟨g, 8, none⟩ (.int .u64 0)).setCell ⟨g, 9, none⟩ (.int .u64 0)).setCell ⟨g, 10, none⟩ (.int .u64 0)) := ⟨_, rfl⟩
    have hgl := HGL.out
    have HD0 := Lib.hid (show DrS W g (w : Int) (st : Int) (en : Int) (hp : Int) (sr : Int) (gp : Int) (id : Int) 0 0 0 0 U from ⟨by
      rw [hU]
      exact (((((((((((HS8.out.z.other _ _ _ (by omega)).other _ _ _ (by omega)).other _ _ _ (by omega)).other _ _ _ (by omega)).other _ _ _ (by omega)).other _ _ _ (by omega)).other _ _ _ (by omega)).other _ _ _ (by omega)).other _ _ _ (by omega)).other _ _ _ (by omega)).other _ _ _ (by omega)), by rw [hU]; exact (((((((((((HG8.out.set0 _).set1 _).set2 _).set3 _).set4 _).set5 _).set6 _).set7 _).set8 _).set9 _).set10 _), by
      rw [hU]
      repeat (with_reducible refine Below.setCell ?_ (by simp only; omega) _)
      exact HS8.out.bel, hgl⟩)
    rw [← hU]
    refine hK _ _ ⟨HD0.out.z, HD0.out.bel⟩ ?_
    clear hK K y0 y1 y2 y3 y4 y5 y6 y7 y8 y9 y10 f0 f1 f2 f3 f4 f5 f6 f7 f8 f9 f10 hU
    refine wpOT_nil ?_
    obtain ⟨y0, y1, y2, y3, y4, y5, y6, y7, y8, y9, y10⟩ := HD0.out.h.cells
    go_wp2_with fail
    refine (HRD.out _).mono ?_
    rintro e V7 ⟨rfl, hb⟩
    have HS7 := Lib.hid (HD0.out.later hb)
    clear hb y0 y1 y2 y3 y4 y5 y6 y7 y8 y9 y10
    obtain ⟨y0, y1, y2, y3, y4, y5, y6, y7, y8, y9, y10⟩ := HS7.out.h.cells
    obtain ⟨f0, f1, f2, f3, f4, f5, f6, f7, f8, f9, f10⟩ := HS7.out.h.frozen
    have hgl7 := HS7.out.hi
    have HS8 := Lib.hid ((((HS7.out.set7 (x.a : Int)).set8 (x.b : Int)).set9 (x.c : Int)).set10 (x.d : Int))
    obtain ⟨U7, hU7⟩ : ∃ U, U = (((V7.setCell ⟨g, 7, none⟩ (.int .u64 (x.a : Int))).setCell ⟨g, 8, none⟩ (.int .u64 (x.b : Int))).setCell ⟨g, 9, none⟩ (.int .u64 (x.c : Int))).setCell ⟨g, 10, none⟩ (.int .u64 (x.d : Int)) := ⟨_, rfl⟩
    rw [← hU7] at HS8
    have HU7 := Lib.hid hU7
    clear hU7
    obtain ⟨z0, z1, z2, z3, z4, z5, z6, z7, z8, z9, z10⟩ := HS8.out.h.cells
    rw [HU7.out] at z0 z1 z2 z3 z4 z5 z6 z7 z8 z9 z10
    go_wp2_with fail
    rw [← HU7.out]
    clear y0 y1 y2 y3 y4 y5 y6 y7 y8 y9 y10 f0 f1 f2 f3 f4 f5 f6 f7 f8 f9 f10 z0 z1 z2 z3 z4 z5 z6 z7 z8 z9 z10
    refine (HCK.out _).mono ?_
    rintro e V8 ⟨rfl, hb⟩
    have HS9 := Lib.hid (HS8.out.later hb)
    clear hb
    obtain ⟨y0, y1, y2, y3, y4, y5, y6, y7, y8, y9, y10⟩ := HS9.out.h.cells
    obtain ⟨z0, z1, z2, z3, z4, z5, z6, z7, z8, z9, z10⟩ := HS9.out.z.cells
    obtain ⟨f0, f1, f2, f3, f4, f5, f6, f7, f8, f9, f10⟩ := HS9.out.z.frozen
    by_cases hk : Hd.chk ⟨(w : Int), (st : Int), en, (hp : Int), (sr : Int), (gp : Int), id, x⟩ = true
    · have HR := Lib.hid (show decH s = ⟨(w : Int), (st : Int), en, (hp : Int), (sr : Int), (gp : Int), id, x⟩ ∧ decHE s = 0 by
        have h1 := HFF.out
        rw [HCD.out, if_pos hk, if_pos hk] at h1
        exact h1)
      have HER := Lib.hid (show Hd.err ⟨(w : Int), (st : Int), en, (hp : Int), (sr : Int), (gp : Int), id, x⟩ = 0 by rw [Hd.err, if_pos hk])
      clear hk
      rw [HER.out]
      go_wp2_with fail
      refine bodyPost_ret (v := .tuple #[.agg #[.int .i64 w, .int .i64 st, .int .u32 en, .int .i64 hp, .int .i64 sr, .int .i64 gp, .int .u32 id, .int .u64 x.a, .int .u64 x.b, .int .u64 x.c, .int .u64 x.d], .int .i64 0]) ?_ rfl ⟨?_, ?_⟩
      · simp only [results, Try.results10]
        go_simp
      · rw [HR.out.1, HR.out.2]; rfl
      · repeat (with_reducible refine Below.setCell ?_ (by simp only; omega) _)
        exact HS9.out.bel
    · have HR := Lib.hid (show decH s = Hd.zero ∧ decHE s = 4 by
        have h1 := HFF.out
        rw [HCD.out, if_neg hk, if_neg hk] at h1
        exact h1)
      have HER := Lib.hid (show Hd.err ⟨(w : Int), (st : Int), en, (hp : Int), (sr : Int), (gp : Int), id, x⟩ = 2 by rw [Hd.err, if_neg hk])
      clear hk
      rw [HER.out]
      go_wp2_with fail
      refine bodyPost_ret (v := .tuple #[.agg #[.int .i64 0, .int .i64 0, .int .u32 0, .int .i64 0, .int .i64 0, .int .i64 0, .int .u32 0, .int .u64 0, .int .u64 0, .int .u64 0, .int .u64 0], .int .i64 (4)]) ?_ rfl ⟨?_, ?_⟩
      · simp only [results, Try.results10]
        go_simp
      · rw [HR.out.1, HR.out.2]; rfl
      · repeat (with_reducible refine Below.setCell ?_ (by simp only; omega) _)
        exact HS9.out.bel

theorem rhdecode_any (s : ByteArray) (W : World) (hs : s.size ≤ 140737488355000) :
    Calls Try.prog 10 #[.string s] W fun e W' => e = .returned (.tuple #[(decH s).ag, .int .i64 (decHE s)]) ∧ Below W.heap.size W W' := by
  by_cases h0 : 0 < s.size
  · by_cases h1 : seg s.data.toList 0 1 < 16 ∨ 21 < seg s.data.toList 0 1
    · have hf : formH s.data.toList = false := by
        rw [← Bool.not_eq_true]
        intro h
        simp only [formH, Bool.and_eq_true, decide_eq_true_eq] at h
        omega
      have h := rhdecode_first s W (.inr ⟨h0, h1⟩)
      rw [show decH s = Hd.zero from by rw [decH, if_neg (fun h => by rw [hf] at h; exact absurd h.1 (by decide))], show decHE s = 4 from by rw [decHE, hf]; rfl]
      exact h
    · exact rhdecode_form s (seg s.data.toList 0 1 - 16) W h0 (by omega) (by omega) hs
  · have hf : formH s.data.toList = false := by
      rw [← Bool.not_eq_true]
      intro h
      simp only [formH, Bool.and_eq_true, decide_eq_true_eq, size_eq] at h
      omega
    have h := rhdecode_first s W (.inl (by omega))
    rw [show decH s = Hd.zero from by rw [decH, if_neg (fun h => by rw [hf] at h; exact absurd h.1 (by decide))], show decHE s = 4 from by rw [decHE, hf]; rfl]
    exact h

end Go.Proofs.Ytbcgfojdlehnpaa
