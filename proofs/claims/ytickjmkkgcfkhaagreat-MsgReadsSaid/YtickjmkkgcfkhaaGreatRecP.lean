/- The record, plain: what may be, its bytes, the record of bytes; they come back. No program is in sight. -/
import Derived.Test.YtickjmkkgcfkhaaGreatWireG1
set_option linter.unusedSimpArgs false
set_option linter.unusedVariables false
set_option maxRecDepth 100000
namespace Go.Proofs.YtickjmkkgcfkhaaGreat

/-- What a router tells of itself. -/
structure Rc where
  org : Int
  ep : Nat
  sq : Nat
  clm : Int
  ing : Bool
  adjs : List (Int × Int)
deriving DecidableEq, Inhabited
/-- Numbers that the types bear. -/
def Rc.ok (r : Rc) : Prop := (-9223372036854775808 ≤ r.org ∧ r.org ≤ 9223372036854775807) ∧ r.ep < 4294967296 ∧ r.sq < 4294967296 ∧ (-9223372036854775808 ≤ r.clm ∧ r.clm ≤ 9223372036854775807)
def rtr (n : Int) : Bool := decide (1 ≤ n) && decide (n ≤ 24)
/-- Neighbours, rising. -/
def chkA (org : Int) : Int → List (Int × Int) → Bool
  | _, [] => true
  | last, a :: l => rtr a.1 && decide (a.1 ≠ org) && decide (1 ≤ a.2) && decide (a.2 ≤ 1000) && decide (last < a.1) && chkA org a.1 l
def Rc.chk (r : Rc) : Bool := rtr r.org && decide (r.ep ≠ 0) && decide (r.sq ≠ 0) && decide (0 ≤ r.clm) && decide (r.clm ≤ 1024) && decide (r.adjs.length ≤ 16) && chkA r.org 0 r.adjs
def Rc.err (r : Rc) : Int := if r.chk then 0 else 2
/-- A number of k bytes. -/
def nb (v k : Nat) : List UInt8 := beL v k k
theorem nb_len (v k : Nat) : (nb v k).length = k := beL_len v k k
def encA (l : List (Int × Int)) : List UInt8 := l.flatMap fun a => nb a.1.toNat 1 ++ nb a.2.toNat 2
theorem encA_len : ∀ l : List (Int × Int), (encA l).length = 3 * l.length
  | [] => rfl
  | a :: l => by
    show (nb a.1.toNat 1 ++ nb a.2.toNat 2 ++ encA l).length = _
    rw [List.length_append, List.length_append, nb_len, nb_len, encA_len l, List.length_cons]; omega
def Rc.head (r : Rc) : List UInt8 := nb r.org.toNat 1 ++ nb r.ep 4 ++ nb r.sq 4 ++ nb r.clm.toNat 2 ++ nb (if r.ing then 1 else 0) 1 ++ nb r.adjs.length 1
theorem Rc.head_len (r : Rc) : r.head.length = 13 := by simp [Rc.head, nb_len]
/-- A record's bytes. -/
def Rc.enc (r : Rc) : List UInt8 := r.head ++ encA r.adjs
theorem Rc.enc_len (r : Rc) : r.enc.length = 13 + 3 * r.adjs.length := by rw [Rc.enc, List.length_append, r.head_len, encA_len]

/-! ### numbers as bytes -/
theorem nb_zero (v : Nat) : nb v 0 = [] := rfl
theorem nb_succ (v k : Nat) : nb v (k + 1) = nb (v / 256) k ++ [toU8 v] := by
  unfold nb
  rw [beL_succ, show k + 1 - 1 - k = 0 from by omega, Nat.mul_zero, Nat.pow_zero, Nat.div_one]
  congr 1
  unfold beL
  apply List.map_congr_left
  intro j hj
  have hj' := List.mem_range.1 hj
  rw [Nat.div_div_eq_div_mul, show (256 : Nat) = 2 ^ 8 from rfl, ← Nat.pow_add, show 8 + 8 * (k - 1 - j) = 8 * (k + 1 - 1 - j) from by omega]
theorem beVal_nb : ∀ (k v : Nat), beVal (nb v k) = v % 256 ^ k
  | 0, v => by simp [nb_zero, beVal]; omega
  | k + 1, v => by
    rw [nb_succ, beVal_snoc, beVal_nb k, toU8_toNat, Nat.pow_succ, Nat.mul_comm (256 ^ k) 256, Nat.mod_mul, Nat.mul_comm]
    omega
theorem nb_beVal : ∀ (k : Nat) (l : List UInt8), l.length = k → nb (beVal l) k = l
  | 0, l, h => by simp [nb_zero, List.eq_nil_of_length_eq_zero h]
  | k + 1, l, h => by
    obtain ⟨r, b, rfl⟩ : ∃ r b, l = r ++ [b] := by
      rcases List.eq_nil_or_concat l with h0 | ⟨r, b, h1⟩
      · subst h0; simp at h
      · exact ⟨r, b, by simpa using h1⟩
    have hr : r.length = k := by simpa using h
    rw [nb_succ, beVal_snoc]
    have hb := b.toNat_lt
    rw [show (beVal r * 256 + b.toNat) / 256 = beVal r from by omega, nb_beVal k r hr]
    have : toU8 (beVal r * 256 + b.toNat) = b := by
      apply UInt8.toNat_inj.1
      rw [toU8_toNat]; omega
    rw [this]
theorem beVal_lt' (l : List UInt8) : beVal l < 256 ^ l.length := beVal_lt l.length l (Nat.le_refl _)

/-! ### the record of bytes -/
def seg (s : List UInt8) (a k : Nat) : Nat := beVal ((s.drop a).take k)
theorem seg_lt (s : List UInt8) (a k : Nat) : seg s a k < 256 ^ k := beVal_lt k _ (List.length_take_le _ _)
def decA (s : List UInt8) (n : Nat) : List (Int × Int) := (List.range n).map fun i => ((seg s (13 + 3 * i) 1 : Nat), (seg s (14 + 3 * i) 2 : Nat))
theorem decA_len (s : List UInt8) (n : Nat) : (decA s n).length = n := by simp [decA]
/-- The record that bytes tell of. -/
def cand (s : List UInt8) : Rc := ⟨(seg s 0 1 : Nat), seg s 1 4, seg s 5 4, (seg s 9 2 : Nat), seg s 11 1 == 1, decA s (seg s 12 1)⟩
/-- What 'Decode' answers. -/
def decOk (s : List UInt8) : Bool := decide (13 ≤ s.length) && decide (seg s 11 1 ≤ 1) && decide (s.length = 13 + 3 * seg s 12 1) && (cand s).chk
def Rc.zero : Rc := ⟨0, 0, 0, 0, false, []⟩
def decR (s : List UInt8) : Rc := if decOk s then cand s else Rc.zero
def decE (s : List UInt8) : Int := if decOk s then 0 else 4

theorem seg_nb {s : List UInt8} {a k : Nat} (h : a + k ≤ s.length) : nb (seg s a k) k = (s.drop a).take k := nb_beVal k _ (by rw [List.length_take, List.length_drop]; omega)
theorem take_split (s : List UInt8) (a k : Nat) : s.take (a + k) = s.take a ++ (s.drop a).take k := by rw [List.take_add]
theorem encA_dec {s : List UInt8} : ∀ n, 13 + 3 * n ≤ s.length → s.take 13 ++ encA (decA s n) = s.take (13 + 3 * n)
  | 0, _ => by simp [decA, encA]
  | n + 1, h => by
    have ih := encA_dec (s := s) n (by omega)
    have e : decA s (n + 1) = decA s n ++ [(((seg s (13 + 3 * n) 1 : Nat) : Int), ((seg s (14 + 3 * n) 2 : Nat) : Int))] := by simp [decA, List.range_succ]
    have e2 : encA (decA s (n + 1)) = encA (decA s n) ++ (nb (seg s (13 + 3 * n) 1) 1 ++ nb (seg s (14 + 3 * n) 2) 2) := by
      rw [e]; simp [encA]
    rw [e2, ← List.append_assoc, ih, seg_nb (by omega), seg_nb (by omega), show 13 + 3 * (n + 1) = (13 + 3 * n + 1) + 2 from by omega, take_split s (13 + 3 * n + 1) 2, take_split s (13 + 3 * n) 1, show 14 + 3 * n = 13 + 3 * n + 1 from by omega, List.append_assoc]
/-- What is read is told by the same bytes. -/
theorem enc_dec {s : List UInt8} (h : decOk s = true) : (cand s).enc = s := by
  simp only [decOk, Bool.and_eq_true, decide_eq_true_eq] at h
  obtain ⟨⟨⟨h1, h2⟩, h3⟩, h4⟩ := h
  have hi : (if (seg s 11 1 == 1) = true then 1 else 0) = seg s 11 1 := by
    obtain h | h : seg s 11 1 = 0 ∨ seg s 11 1 = 1 := by omega
    all_goals rw [h]; rfl
  have hd : (cand s).head = s.take 13 := by
    unfold Rc.head cand
    simp only [decA_len, Int.toNat_natCast]
    rw [hi, seg_nb (by omega), seg_nb (by omega), seg_nb (by omega), seg_nb (by omega), seg_nb (by omega), seg_nb (by omega),
      show s.take 13 = s.take (12 + 1) from rfl, take_split s 12 1, show s.take 12 = s.take (11 + 1) from rfl, take_split s 11 1, show s.take 11 = s.take (9 + 2) from rfl, take_split s 9 2, show s.take 9 = s.take (5 + 4) from rfl, take_split s 5 4, show s.take 5 = s.take (1 + 4) from rfl, take_split s 1 4, List.drop_zero]
  rw [Rc.enc, hd]
  show s.take 13 ++ encA (decA s (seg s 12 1)) = s
  rw [encA_dec _ (by omega), ← h3, List.take_length]
theorem seg_at {pre suf : List UInt8} {a k v : Nat} (ha : pre.length = a) (hv : v < 256 ^ k) : seg (pre ++ nb v k ++ suf) a k = v := by
  unfold seg
  rw [List.append_assoc, ← ha, List.drop_left, List.take_left' (nb_len v k), beVal_nb, Nat.mod_eq_of_lt hv]
theorem chkA_bound (org : Int) : ∀ (l : List (Int × Int)) (last : Int), chkA org last l = true → ∀ a ∈ l, 1 ≤ a.1 ∧ a.1 ≤ 24 ∧ 1 ≤ a.2 ∧ a.2 ≤ 1000
  | [], _, _, _, h => by simp at h
  | b :: l, last, h, a, ha => by
    simp only [chkA, rtr, Bool.and_eq_true, decide_eq_true_eq] at h
    rcases List.mem_cons.1 ha with rfl | ha
    · omega
    · exact chkA_bound org l b.1 h.2 a ha
theorem decA_enc : ∀ (l : List (Int × Int)) (pre : List UInt8) (k : Nat), pre.length = 13 + 3 * k → (∀ a ∈ l, 1 ≤ a.1 ∧ a.1 ≤ 24 ∧ 1 ≤ a.2 ∧ a.2 ≤ 1000) →
    ((List.range l.length).map fun i => (((seg (pre ++ encA l) (13 + 3 * (k + i)) 1 : Nat) : Int), ((seg (pre ++ encA l) (14 + 3 * (k + i)) 2 : Nat) : Int))) = l
  | [], _, _, _, _ => rfl
  | a :: l, pre, k, hp, hb => by
    have ha := hb a (by simp)
    have e : pre ++ encA (a :: l) = (pre ++ nb a.1.toNat 1 ++ nb a.2.toNat 2) ++ encA l := by simp [encA]
    have e1 : seg (pre ++ encA (a :: l)) (13 + 3 * k) 1 = a.1.toNat := by
      rw [show pre ++ encA (a :: l) = pre ++ nb a.1.toNat 1 ++ (nb a.2.toNat 2 ++ encA l) from by simp [encA]]
      exact seg_at hp (by omega)
    have e2 : seg (pre ++ encA (a :: l)) (14 + 3 * k) 2 = a.2.toNat := by
      rw [e]
      exact seg_at (pre := pre ++ nb a.1.toNat 1) (by rw [List.length_append, nb_len]; omega) (by omega)
    rw [List.length_cons, List.range_succ_eq_map, List.map_cons, List.map_map]
    have ih := decA_enc l (pre ++ nb a.1.toNat 1 ++ nb a.2.toNat 2) (k + 1) (by rw [List.length_append, List.length_append, nb_len, nb_len]; omega) (fun x hx => hb x (by simp [hx]))
    rw [← e] at ih
    congr 1
    · rw [Nat.add_zero, e1, e2, Int.toNat_of_nonneg (by omega), Int.toNat_of_nonneg (by omega)]
    · rw [← ih]
      simp only [List.length_map, List.length_range]
      apply List.map_congr_left
      intro i _
      simp only [Function.comp, ih]
      rw [show k + (i + 1) = k + 1 + i from by omega]
/-- A record that may be comes back from its bytes. -/
theorem dec_enc {r : Rc} (hok : r.ok) (h : r.chk = true) : decOk r.enc = true ∧ cand r.enc = r := by
  have hc := h
  simp only [Rc.chk, rtr, Bool.and_eq_true, decide_eq_true_eq] at h
  obtain ⟨⟨⟨⟨⟨⟨⟨h1, h2⟩, h3⟩, h4⟩, h5⟩, h6⟩, h7⟩, h8⟩ := h
  obtain ⟨_, o1, o2, _⟩ := hok
  have hb := chkA_bound _ _ _ h8
  obtain ⟨i, hi⟩ : ∃ i : Nat, i = if r.ing then 1 else 0 := ⟨_, rfl⟩
  have hi1 : i ≤ 1 := by rw [hi]; split <;> omega
  have E : r.enc = nb r.org.toNat 1 ++ nb r.ep 4 ++ nb r.sq 4 ++ nb r.clm.toNat 2 ++ nb i 1 ++ nb r.adjs.length 1 ++ encA r.adjs := by rw [hi]; rfl
  have s0 : seg r.enc 0 1 = r.org.toNat := by
    rw [E, List.append_assoc, List.append_assoc, List.append_assoc, List.append_assoc, List.append_assoc]
    exact seg_at (pre := []) rfl (by omega)
  have s1 : seg r.enc 1 4 = r.ep := by
    rw [E, List.append_assoc, List.append_assoc, List.append_assoc, List.append_assoc]
    exact seg_at (pre := nb r.org.toNat 1) (by simp [nb_len]) (by omega)
  have s5 : seg r.enc 5 4 = r.sq := by
    rw [E, List.append_assoc, List.append_assoc, List.append_assoc]
    exact seg_at (pre := nb r.org.toNat 1 ++ nb r.ep 4) (by simp [nb_len]) (by omega)
  have s9 : seg r.enc 9 2 = r.clm.toNat := by
    rw [E, List.append_assoc, List.append_assoc]
    exact seg_at (pre := nb r.org.toNat 1 ++ nb r.ep 4 ++ nb r.sq 4) (by simp [nb_len]) (by omega)
  have s11 : seg r.enc 11 1 = i := by
    rw [E, List.append_assoc]
    exact seg_at (pre := nb r.org.toNat 1 ++ nb r.ep 4 ++ nb r.sq 4 ++ nb r.clm.toNat 2) (by simp [nb_len]) (by omega)
  have s12 : seg r.enc 12 1 = r.adjs.length := by
    rw [E]
    exact seg_at (pre := nb r.org.toNat 1 ++ nb r.ep 4 ++ nb r.sq 4 ++ nb r.clm.toNat 2 ++ nb i 1) (by simp [nb_len]) (by omega)
  have hA : decA r.enc r.adjs.length = r.adjs := by
    have := decA_enc r.adjs r.head 0 (by rw [r.head_len]) hb
    rw [← show r.enc = r.head ++ encA r.adjs from rfl] at this
    unfold decA
    simpa using this
  have hcand : cand r.enc = r := by
    unfold cand
    rw [s0, s1, s5, s9, s11, s12, hA, Int.toNat_of_nonneg (by omega), Int.toNat_of_nonneg (by omega)]
    have : (i == 1) = r.ing := by rw [hi]; cases r.ing <;> rfl
    rw [this]
  refine ⟨?_, hcand⟩
  unfold decOk
  rw [hcand, hc, s11, s12, r.enc_len]
  simp only [Bool.and_eq_true, decide_eq_true_eq, and_true]
  omega

end Go.Proofs.YtickjmkkgcfkhaaGreat
