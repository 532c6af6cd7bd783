/- What a kind's row reads off bytes, for every kind; it is of numbers that the types bear. -/
import Derived.Test.YtickjmkkgcfkhaaGreatMsIK
import Derived.Test.YtickjmkkgcfkhaaGreatRecX
set_option linter.unusedSimpArgs false
set_option linter.unusedVariables false
set_option maxRecDepth 100000
set_option maxRecDepth 100000
namespace Go.Proofs.YtickjmkkgcfkhaaGreat
open Go.RowKit Go.ChangeShapes Go.WideShapes

def Ms.m0 (k : Int) : Ms := { Ms.zero with kd := k }
theorem arow_nil (W : World) (B : Nat) : ARow W B none 0 [] := Row.nil_ _ _ _ _
def RdPost (k : Int) (l : List UInt8) (W : World) (g : Nat) (e : Ending) (X : World) : Prop :=
  e = .returned (.bool (redOk k l)) ∧ W.grownBy X (some g) ∧ (redOk k l = true → ∃ sa sc, BoxM g (Ms.got k l) sa sc X ∧ ARow X W.heap.size sa sc (Ms.got k l).rc.adjs)
theorem red1 (s : ByteArray) (g : Nat) (W : World) (hs : s.size ≤ 1000) (hb : BoxM g (Ms.m0 1) none 0 W) : Calls Tryz.prog 46 #[.string s, .pointer (some ⟨g, 0, none⟩)] W (RdPost 1 s.data.toList W g) :=
  (read1_any s g _ W hs hb).mono fun e X ⟨h1, ⟨sa, sc, h2, h4⟩, h3⟩ => ⟨h1, h3, fun _ => ⟨sa, sc, h2, h4⟩⟩
theorem red2 (s : ByteArray) (g : Nat) (W : World) (hs : s.size ≤ 1000) (hb : BoxM g (Ms.m0 2) none 0 W) : Calls Tryz.prog 51 #[.string s, .pointer (some ⟨g, 0, none⟩)] W (RdPost 2 s.data.toList W g) :=
  (read2_any s g _ W hs hb).mono fun e X ⟨h1, h2, h3⟩ => ⟨h1, h3, fun _ => ⟨none, 0, h2, arow_nil _ _⟩⟩
theorem red3 (s : ByteArray) (g : Nat) (W : World) (hs : s.size ≤ 1000) (hb : BoxM g (Ms.m0 3) none 0 W) : Calls Tryz.prog 57 #[.string s, .pointer (some ⟨g, 0, none⟩)] W (RdPost 3 s.data.toList W g) :=
  (read3_any s g _ W hs hb).mono fun e X ⟨h1, h2, h3⟩ => by
    have e1 : redOk 3 s.data.toList = decide (decHE s = 0) := by
      show decide (decHE (bs s.data.toList) = 0) = _
      rw [bs_of]
    have e2 : Ms.got 3 s.data.toList = { Ms.m0 3 with hd := decH s } := by
      show { Ms.m0 3 with hd := decH (bs s.data.toList) } = _
      rw [bs_of]
    refine ⟨by rw [e1]; exact h1, h3, fun _ => ⟨none, 0, by rw [e2]; exact h2, by rw [e2]; exact arow_nil _ _⟩⟩
theorem red4 (s : ByteArray) (g : Nat) (W : World) (hs : s.size ≤ 1000) (hb : BoxM g (Ms.m0 4) none 0 W) : Calls Tryz.prog 64 #[.string s, .pointer (some ⟨g, 0, none⟩)] W (RdPost 4 s.data.toList W g) :=
  (read4_any s g _ W hs hb).mono fun e X ⟨h1, h2, h3⟩ => by
    refine ⟨h1, h3, fun h => ?_⟩
    have hl : s.size = 12 := by have h' : decide (s.data.toList.length = 12) = true := h; rw [← size_len]; exact of_decide_eq_true h'
    rw [tk_in (by omega) (by omega), tk_in (by omega) (by omega), tk_in (by omega) (by omega), tk_in (by omega) (by omega), tk_in (by omega) (by omega), tk_in (by omega) (by omega)] at h2
    exact ⟨none, 0, h2, arow_nil _ _⟩
theorem red5 (s : ByteArray) (g : Nat) (W : World) (hs : s.size ≤ 1000) (hb : BoxM g (Ms.m0 5) none 0 W) : Calls Tryz.prog 68 #[.string s, .pointer (some ⟨g, 0, none⟩)] W (RdPost 5 s.data.toList W g) :=
  (read5_any s g _ W hs hb).mono fun e X ⟨h1, h2, h3⟩ => by
    refine ⟨h1, h3, fun h => ?_⟩
    have hl : s.size = 16 := by have h' : decide (s.data.toList.length = 16) = true := h; rw [← size_len]; exact of_decide_eq_true h'
    rw [tk_in (by omega) (by omega), tk_in (by omega) (by omega), tk_in (by omega) (by omega), tk_in (by omega) (by omega), tk_in (by omega) (by omega), tk_in (by omega) (by omega), tk_in (by omega) (by omega)] at h2
    exact ⟨none, 0, h2, arow_nil _ _⟩

theorem seg1 (l : List UInt8) (a : Nat) : seg l a 1 < 256 := seg_lt l a 1
theorem seg4 (l : List UInt8) (a : Nat) : seg l a 4 < 4294967296 := seg_lt l a 4
theorem Ms.zero_ok : Ms.zero.ok := by simp [Ms.ok, Ms.zero, Rc.ok, Rc.zero, St.ok, Hd.ok, Hd.zero, Bt.ok, Bt.zero, Wi.ok, Wi.zero, Ak.ok, Ak.zero, I64]
theorem decS_ok (l : List UInt8) : (decS l).ok := by
  unfold decS
  split
  · exact candS_ok l
  · exact Ms.zero_ok.2.2.1
theorem decH_ok (s : ByteArray) : (decH s).ok := by
  by_cases h : decHE s = 0
  · exact (encH_decH h).2.2.1
  · have : decH s = Hd.zero := by
      unfold decH
      rw [if_neg]
      rintro ⟨h1, h2, h3⟩
      apply h
      unfold decHE
      rw [h1, if_pos rfl, if_pos h2, if_pos h3]
    rw [this]
    exact Ms.zero_ok.2.2.2.1
theorem got_ok (k : Int) (l : List UInt8) (hk : I64 k) : (Ms.got k l).ok := by
  obtain ⟨z1, z2, z3, z4, z5, z6, z7, z8⟩ := Ms.zero_ok
  have s1 := seg1 l
  have s4 := seg4 l
  unfold Ms.got
  split
  · exact ⟨hk, decR_ok l, z3, z4, z5, z6, z7, z8⟩
  · split
    · exact ⟨hk, z2, decS_ok l, z4, z5, z6, z7, z8⟩
    · split
      · exact ⟨hk, z2, z3, decH_ok _, z5, z6, z7, z8⟩
      · split
        · refine ⟨hk, z2, z3, z4, ?_, ?_, ⟨?_, s4 3, s4 7, s1 11⟩, z8⟩
          · have := s1 0; show I64 ((seg l 0 1 : Nat) : Int); unfold I64; omega
          · have := s1 1; show I64 ((seg l 1 1 : Nat) : Int); unfold I64; omega
          · have := s1 2; show I64 ((seg l 2 1 : Nat) : Int); unfold I64; omega
        · refine ⟨hk, z2, z3, z4, ?_, ?_, z7, ⟨?_, s4 3, ?_, s4 8, s4 12⟩⟩
          · have := s1 0; show I64 ((seg l 0 1 : Nat) : Int); unfold I64; omega
          · have := s1 1; show I64 ((seg l 1 1 : Nat) : Int); unfold I64; omega
          · have := s1 2; show I64 ((seg l 2 1 : Nat) : Int); unfold I64; omega
          · have := s1 7; show I64 ((seg l 7 1 : Nat) : Int); unfold I64; omega
theorem got_kd (k : Int) (l : List UInt8) : (Ms.got k l).kd = k := by
  unfold Ms.got
  split
  · rfl
  · split
    · rfl
    · split
      · rfl
      · split <;> rfl
theorem got_adjs (k : Int) (l : List UInt8) : (Ms.got k l).rc.adjs.length ≤ 255 := by
  unfold Ms.got
  split
  · show (decR l).adjs.length ≤ 255
    unfold decR
    split
    · show (decA l (seg l 12 1)).length ≤ 255
      rw [decA_len]; have := seg1 l 12; omega
    · simp [Rc.zero]
  · split
    · simp [Ms.zero, Rc.zero]
    · split
      · simp [Ms.zero, Rc.zero]
      · split <;> simp [Ms.zero, Rc.zero]
theorem tail_list (s : ByteArray) : (s.extract 1 s.size).data.toList = s.data.toList.tail := by
  rw [ByteArray.data_extract, Array.toList_extract, List.extract, ← List.drop_one]
  rw [List.take_of_length_le]
  rw [List.length_drop, size_len]
  omega
theorem headD_at : ∀ (l : List UInt8) (h : 0 < l.length), l.headD 0 = l[0]
  | x :: l, _ => rfl
theorem kindOf_head {s : ByteArray} (h : 0 < s.size) : kindOf s.data.toList = (s[0].toNat : Int) := by
  have e2 : s[0] = s.data.toList[0]'(by rw [size_len]; exact h) := rfl
  rw [e2]
  unfold kindOf
  rw [headD_at]

end Go.Proofs.YtickjmkkgcfkhaaGreat
