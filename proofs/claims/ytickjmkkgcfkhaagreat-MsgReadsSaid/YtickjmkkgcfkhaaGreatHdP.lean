/- The header, plain: what may be, its bytes, the header of bytes; they come back. No program is in sight. -/
import Derived.Test.YtickjmkkgcfkhaaGreatRecP
import Derived.Test.YtickjmkkgcfkhaaGreatWireG2
set_option linter.unusedSimpArgs false
set_option linter.unusedVariables false
set_option maxRecDepth 100000
namespace Go.Proofs.YtickjmkkgcfkhaaGreat

/-- A bit string: four words. -/
structure Bt where
  a : Nat
  b : Nat
  c : Nat
  d : Nat
deriving DecidableEq, Inhabited
def Bt.ok (x : Bt) : Prop := x.a < 18446744073709551616 ∧ x.b < 18446744073709551616 ∧ x.c < 18446744073709551616 ∧ x.d < 18446744073709551616
def Bt.num (x : Bt) : Nat := x.a + 18446744073709551616 * (x.b + 18446744073709551616 * (x.c + 18446744073709551616 * x.d))
def Bt.zero : Bt := ⟨0, 0, 0, 0⟩
def Bt.of (n : Nat) : Bt := ⟨n % 18446744073709551616, n / 18446744073709551616 % 18446744073709551616, n / 340282366920938463463374607431768211456 % 18446744073709551616, n / 6277101735386680763835789423207666416102355444464034512896 % 18446744073709551616⟩
theorem Bt.of_ok (n : Nat) : (Bt.of n).ok := ⟨Nat.mod_lt _ (by decide), Nat.mod_lt _ (by decide), Nat.mod_lt _ (by decide), Nat.mod_lt _ (by decide)⟩
theorem Bt.of_num {x : Bt} (h : x.ok) : Bt.of x.num = x := by
  obtain ⟨a, b, c, d⟩ := x
  obtain ⟨h1, h2, h3, h4⟩ := h
  simp only [Bt.of, Bt.num, Bt.mk.injEq] at *
  refine ⟨?_, ?_, ?_, ?_⟩ <;> omega
theorem two256 : (2 : Nat) ^ 256 = 115792089237316195423570985008687907853269984665640564039457584007913129639936 := by decide
theorem Bt.num_of {n : Nat} (h : n < 2 ^ 256) : (Bt.of n).num = n := by
  rw [two256] at h
  simp only [Bt.of, Bt.num]
  omega
theorem Bt.num_lt {x : Bt} (h : x.ok) : x.num < 2 ^ 256 := by
  obtain ⟨h1, h2, h3, h4⟩ := h
  rw [two256]
  simp only [Bt.num]
  omega
theorem Bt.num_inj {x y : Bt} (hx : x.ok) (hy : y.ok) (h : x.num = y.num) : x = y := by rw [← Bt.of_num hx, ← Bt.of_num hy, h]

/-- A header. -/
structure Hd where
  wid : Int
  set : Int
  ent : Nat
  hops : Int
  src : Int
  grp : Int
  id : Nat
  bits : Bt
deriving DecidableEq, Inhabited
def I64 (n : Int) : Prop := -9223372036854775808 ≤ n ∧ n ≤ 9223372036854775807
def Hd.ok (h : Hd) : Prop := I64 h.wid ∧ I64 h.set ∧ h.ent < 4294967296 ∧ I64 h.hops ∧ I64 h.src ∧ I64 h.grp ∧ h.id < 4294967296 ∧ h.bits.ok
def Hd.zero : Hd := ⟨0, 0, 0, 0, 0, 0, 0, Bt.zero⟩
def wide (w : Int) : Bool := decide (w = 8 ∨ w = 16 ∨ w = 32 ∨ w = 64 ∨ w = 128 ∨ w = 256)
def below (x : Bt) (w : Int) : Bool := decide (0 ≤ w ∧ w ≤ 256 ∧ x.num < 2 ^ w.toNat)
def Hd.chk (h : Hd) : Bool := wide h.wid && decide (0 ≤ h.set) && decide (h.set < 128) && decide (0 ≤ h.hops) && decide (h.hops ≤ 15) && decide (1 ≤ h.src) && decide (h.src ≤ 24) && decide (0 ≤ h.grp) && decide (h.grp < 8) && below h.bits h.wid
def Hd.err (h : Hd) : Int := if h.chk then 0 else 2
theorem wide_cases {w : Int} (h : wide w = true) : w = 8 ∨ w = 16 ∨ w = 32 ∨ w = 64 ∨ w = 128 ∨ w = 256 := by simpa [wide] using h
def sizeV (w : Int) : Int := if wide w then 15 + w / 8 else 0
def sizeE (w : Int) : Int := if wide w then 0 else 2
theorem Hd.chk_is {h : Hd} (hc : h.chk = true) : wide h.wid = true ∧ (0 ≤ h.set ∧ h.set < 128) ∧ (0 ≤ h.hops ∧ h.hops ≤ 15) ∧ (1 ≤ h.src ∧ h.src ≤ 24) ∧ (0 ≤ h.grp ∧ h.grp < 8) ∧ below h.bits h.wid = true := by
  simp only [Hd.chk, Bool.and_eq_true, decide_eq_true_eq] at hc
  obtain ⟨⟨⟨⟨⟨⟨⟨⟨⟨h1, h2⟩, h3⟩, h4⟩, h5⟩, h6⟩, h7⟩, h8⟩, h9⟩, h10⟩ := hc
  exact ⟨h1, ⟨h2, h3⟩, ⟨h4, h5⟩, ⟨h6, h7⟩, ⟨h8, h9⟩, h10⟩
theorem Hd.chk_of {h : Hd} (h1 : wide h.wid = true) (h2 : 0 ≤ h.set ∧ h.set < 128) (h3 : 0 ≤ h.hops ∧ h.hops ≤ 15) (h4 : 1 ≤ h.src ∧ h.src ≤ 24) (h5 : 0 ≤ h.grp ∧ h.grp < 8) (h6 : below h.bits h.wid = true) : h.chk = true := by
  simp only [Hd.chk, Bool.and_eq_true, decide_eq_true_eq]
  exact ⟨⟨⟨⟨⟨⟨⟨⟨⟨h1, h2.1⟩, h2.2⟩, h3.1⟩, h3.2⟩, h4.1⟩, h4.2⟩, h5.1⟩, h5.2⟩, h6⟩

/-! ### bytes, the lowest first -/
def leVal : List UInt8 → Nat
  | [] => 0
  | b :: l => b.toNat + 256 * leVal l
def leB : Nat → Nat → List UInt8
  | _, 0 => []
  | v, k + 1 => toU8 v :: leB (v / 256) k
theorem leB_len : ∀ (v k : Nat), (leB v k).length = k
  | _, 0 => rfl
  | v, k + 1 => by rw [leB, List.length_cons, leB_len]
theorem leVal_lt : ∀ l : List UInt8, leVal l < 256 ^ l.length
  | [] => by simp [leVal]
  | b :: l => by
    have := leVal_lt l
    have hb := b.toNat_lt
    rw [leVal, List.length_cons, Nat.pow_succ, Nat.mul_comm]
    omega
theorem leVal_leB : ∀ (v k : Nat), leVal (leB v k) = v % 256 ^ k
  | v, 0 => by simp [leB, leVal]; omega
  | v, k + 1 => by
    rw [leB, leVal, leVal_leB, toU8_toNat, Nat.pow_succ, Nat.mul_comm (256 ^ k) 256, Nat.mod_mul]
theorem leB_leVal : ∀ l : List UInt8, leB (leVal l) l.length = l
  | [] => rfl
  | b :: l => by
    have hb := b.toNat_lt
    rw [leVal, List.length_cons, leB, show (b.toNat + 256 * leVal l) / 256 = leVal l from by omega, leB_leVal l]
    congr 1
    apply UInt8.toNat_inj.1
    rw [toU8_toNat]; omega
theorem leVal_snoc : ∀ (l : List UInt8) (b : UInt8), leVal (l ++ [b]) = leVal l + b.toNat * 256 ^ l.length
  | [], b => by simp [leVal]
  | c :: l, b => by
    rw [List.cons_append, leVal, leVal, leVal_snoc l b, List.length_cons, Nat.pow_succ, Nat.mul_add, ← Nat.add_assoc]
    congr 1
    rw [Nat.mul_left_comm, Nat.mul_comm 256 (256 ^ l.length)]
theorem leB_get : ∀ (k v i : Nat), i < k → (leB v k)[i]? = some (toU8 (v / 256 ^ i))
  | 0, _, _, h => absurd h (by omega)
  | k + 1, v, 0, _ => by simp [leB]
  | k + 1, v, i + 1, h => by
    rw [leB, List.getElem?_cons_succ, leB_get k (v / 256) i (by omega), Nat.div_div_eq_div_mul, Nat.pow_succ, Nat.mul_comm]
theorem leB_snoc : ∀ (v k : Nat), leB v (k + 1) = leB v k ++ [toU8 (v / 256 ^ k)]
  | v, 0 => by simp [leB]
  | v, k + 1 => by
    rw [leB, leB_snoc (v / 256) k, Nat.div_div_eq_div_mul, show 256 * 256 ^ k = 256 ^ (k + 1) from by rw [Nat.pow_succ, Nat.mul_comm], leB]
    rfl

/-! ### a header's bytes -/
def codeN (w : Int) : Nat := if w = 8 then 0 else if w = 16 then 1 else if w = 32 then 2 else if w = 64 then 3 else if w = 128 then 4 else 5
def Hd.body (h : Hd) : List UInt8 := nb (16 + codeN h.wid) 1 ++ nb h.set.toNat 1 ++ nb h.ent 4 ++ nb h.hops.toNat 1 ++ nb h.src.toNat 1 ++ nb h.grp.toNat 1 ++ nb h.id 4 ++ leB h.bits.num (h.wid.toNat / 8)
theorem Hd.body_len (h : Hd) : h.body.length = 13 + h.wid.toNat / 8 := by simp [Hd.body, nb_len, leB_len]; omega
def Hd.enc (h : Hd) : ByteArray := sealB (bs h.body)
def Hd.encS (h : Hd) : ByteArray := if h.chk then h.enc else bs []
def candH (l : List UInt8) : Hd := ⟨((8 * 2 ^ (seg l 0 1 - 16) : Nat) : Int), (seg l 1 1 : Nat), seg l 2 4, (seg l 6 1 : Nat), (seg l 7 1 : Nat), (seg l 8 1 : Nat), seg l 9 4, Bt.of (leVal (l.drop 13))⟩
/-- May these be a header's bytes, by the first one and their number? -/
def formH (l : List UInt8) : Bool := decide (16 ≤ seg l 0 1) && decide (seg l 0 1 ≤ 21) && decide (0 < l.length) && decide (l.length = 15 + 2 ^ (seg l 0 1 - 16))
def decHE (s : ByteArray) : Int := if formH s.data.toList then (if openE s = 0 then (if (candH (openS s).data.toList).chk then 0 else 4) else openE s) else 4
def decH (s : ByteArray) : Hd := if formH s.data.toList ∧ openE s = 0 ∧ (candH (openS s).data.toList).chk = true then candH (openS s).data.toList else Hd.zero

theorem codeN_wid {w : Int} (h : wide w = true) : w = ((8 * 2 ^ codeN w : Nat) : Int) ∧ codeN w ≤ 5 ∧ w.toNat / 8 = 2 ^ codeN w := by
  rcases wide_cases h with rfl | rfl | rfl | rfl | rfl | rfl <;> decide
theorem wide_code {c : Nat} (h : c ≤ 5) : wide ((8 * 2 ^ c : Nat) : Int) = true ∧ codeN ((8 * 2 ^ c : Nat) : Int) = c ∧ (((8 * 2 ^ c : Nat) : Int)).toNat / 8 = 2 ^ c := by
  match c, h with
  | 0, _ => decide
  | 1, _ => decide
  | 2, _ => decide
  | 3, _ => decide
  | 4, _ => decide
  | 5, _ => decide
theorem pow256 (k : Nat) : 256 ^ k = 2 ^ (8 * k) := by rw [show (256 : Nat) = 2 ^ 8 from rfl, ← Nat.pow_mul]
theorem candH_ok (l : List UInt8) (hl : l.length ≤ 1000) (hc : seg l 0 1 ≤ 21) : (candH l).ok := by
  have h1 := seg_lt l 1 1; have h2 := seg_lt l 2 4; have h3 := seg_lt l 6 1; have h4 := seg_lt l 7 1; have h5 := seg_lt l 8 1; have h6 := seg_lt l 9 4
  simp only [show (256 : Nat) ^ 1 = 256 from rfl, show (256 : Nat) ^ 4 = 4294967296 from rfl] at h1 h2 h3 h4 h5 h6
  have h7 : 2 ^ (seg l 0 1 - 16) ≤ 32 := Nat.le_trans (Nat.pow_le_pow_right (by decide) (show seg l 0 1 - 16 ≤ 5 by omega)) (by decide)
  exact ⟨⟨by simp only [candH]; omega, by simp only [candH]; omega⟩, ⟨by simp only [candH]; omega, by simp only [candH]; omega⟩, h2, ⟨by simp only [candH]; omega, by simp only [candH]; omega⟩, ⟨by simp only [candH]; omega, by simp only [candH]; omega⟩, ⟨by simp only [candH]; omega, by simp only [candH]; omega⟩, h6, Bt.of_ok _⟩
theorem data_front (b : ByteArray) (n : Nat) : (b.extract 0 n).data.toList = b.data.toList.take n := by
  rw [ByteArray.data_extract, Array.toList_extract, List.extract]
  simp
theorem bytes_same {a b : ByteArray} (h : a.data.toList = b.data.toList) : a = b := by
  rw [← bs_of a, ← bs_of b, h]
theorem sealB_list (b : ByteArray) : (sealB b).data.toList = b.data.toList ++ [toU8 (sumB b / 256), toU8 (sumB b)] := by
  rw [sealB, beL_two, bs_toList]
theorem sealB_open (b : ByteArray) : openE (sealB b) = 0 ∧ openS (sealB b) = b := by
  have hn : (sealB b).size = b.size + 2 := sealB_size b
  have hx : (sealB b).extract 0 b.size = b := by
    apply bytes_same
    rw [data_front, sealB_list, List.take_left' (by simp)]
  have hl : sumB ((sealB b).extract 0 b.size) = lastTwo (sealB b) := by
    rw [hx, lastTwo, hn, sealB_list, show b.size + 2 - 2 = b.data.toList.length from by simp, show b.size + 2 - 1 = b.data.toList.length + 1 from by simp]
    have hlt := sumB_lt b
    have e1 : (b.data.toList ++ [toU8 (sumB b / 256), toU8 (sumB b)]).getD b.data.toList.length 0 = toU8 (sumB b / 256) := by
      rw [List.getD_eq_getElem?_getD, List.getElem?_append_right (Nat.le_refl _), Nat.sub_self]; rfl
    have e2 : (b.data.toList ++ [toU8 (sumB b / 256), toU8 (sumB b)]).getD (b.data.toList.length + 1) 0 = toU8 (sumB b) := by
      rw [List.getD_eq_getElem?_getD, List.getElem?_append_right (show b.data.toList.length ≤ b.data.toList.length + 1 by omega), Nat.add_sub_cancel_left]; rfl
    rw [e1, e2, toU8_toNat, toU8_toNat]
    omega
  obtain ⟨h1, h2⟩ := (open_cases hn).1 hl
  exact ⟨h2, h1.trans hx⟩
theorem open_sealB {s : ByteArray} (h : openE s = 0) : sealB (openS s) = s ∧ s.size = (openS s).size + 2 := by
  have h2 : ¬ s.size < 2 := fun hc => by rw [openE, if_pos hc] at h; cases h
  obtain ⟨n, hn⟩ : ∃ n, s.size = n + 2 := ⟨s.size - 2, by omega⟩
  have hq : sumB (s.extract 0 n) = lastTwo s := by
    by_cases hq : sumB (s.extract 0 n) = lastTwo s
    · exact hq
    · rw [((open_cases hn).2 hq).2] at h; cases h
  obtain ⟨h3, _⟩ := (open_cases hn).1 hq
  rw [h3]
  have hsz : (s.extract 0 n).size = n := by rw [ByteArray.size_extract]; omega
  refine ⟨?_, by rw [hsz]; exact hn⟩
  apply bytes_same
  rw [sealB_list, data_front, hq]
  have hl : s.data.toList.length = n + 2 := by simpa using hn
  refine Eq.trans ?_ (list_two hl).symm
  congr 1
  rw [lastTwo, hn, show n + 2 - 2 = n from rfl, show n + 2 - 1 = n + 1 from rfl]
  have hx := (s.data.toList.getD n 0).toNat_lt
  have hy := (s.data.toList.getD (n + 1) 0).toNat_lt
  exact (two_bytes _ _ _ (by omega)).2 rfl
theorem open_list {s : ByteArray} (h : openE s = 0) : s.data.toList = (openS s).data.toList ++ [toU8 (sumB (openS s) / 256), toU8 (sumB (openS s))] := by
  have h1 := sealB_list (openS s)
  rw [(open_sealB h).1] at h1
  exact h1
theorem seg_append {l m : List UInt8} {a k : Nat} (h : a + k ≤ l.length) : seg (l ++ m) a k = seg l a k := by
  unfold seg
  rw [List.drop_append_of_le_length (by omega), List.take_append_of_le_length (by rw [List.length_drop]; omega)]

/-- What is read is told by the same bytes. -/
theorem encH_decH {s : ByteArray} (h : decHE s = 0) : (decH s).chk = true ∧ (decH s).enc = s ∧ (decH s).ok ∧ decH s = candH (openS s).data.toList := by
  unfold decHE at h
  split at h
  · rename_i hf
    split at h
    · rename_i ho
      split at h
      · rename_i hc
        have e : decH s = candH (openS s).data.toList := by rw [decH, if_pos ⟨hf, ho, hc⟩]
        obtain ⟨hs1, hs2⟩ := open_sealB ho
        simp only [formH, Bool.and_eq_true, decide_eq_true_eq] at hf
        obtain ⟨⟨⟨f1, f2⟩, f3⟩, f4⟩ := hf
        have hl : s.data.toList.length = (openS s).data.toList.length + 2 := by simpa using hs2
        have h7 : 0 < 2 ^ (seg s.data.toList 0 1 - 16) := Nat.pow_pos (by decide)
        have hseg : seg s.data.toList 0 1 = seg (openS s).data.toList 0 1 := by
          rw [open_list ho]
          exact seg_append (by omega)
        have hs3 : sealB (bs (openS s).data.toList) = s := by rw [bs_of]; exact hs1
        generalize (openS s).data.toList = l at *
        rw [hseg] at f1 f2 f4 h7
        have hlen : l.length = 13 + 2 ^ (seg l 0 1 - 16) := by omega
        have h32 : 2 ^ (seg l 0 1 - 16) ≤ 32 := Nat.le_trans (Nat.pow_le_pow_right (by decide) (show seg l 0 1 - 16 ≤ 5 by omega)) (by decide)
        refine ⟨e ▸ hc, ?_, e ▸ candH_ok l (by omega) f2, e⟩
        rw [e]
        have hb : (candH l).body = l := by
          obtain ⟨w1, w2, w3⟩ := wide_code (c := seg l 0 1 - 16) (by omega)
          unfold Hd.body candH
          simp only [Int.toNat_natCast]
          have w3' : 8 * 2 ^ (seg l 0 1 - 16) / 8 = 2 ^ (seg l 0 1 - 16) := by omega
          have hd : (l.drop 13).length = 2 ^ (seg l 0 1 - 16) := by rw [List.length_drop]; omega
          have hv := leVal_lt (l.drop 13)
          rw [hd, pow256] at hv
          have hv2 : leVal (l.drop 13) < 2 ^ 256 := Nat.lt_of_lt_of_le hv (Nat.pow_le_pow_right (by decide) (by omega))
          rw [w2, w3', Bt.num_of hv2, ← hd, leB_leVal, show 16 + (seg l 0 1 - 16) = seg l 0 1 from by omega,
            seg_nb (by omega), seg_nb (by omega), seg_nb (by omega), seg_nb (by omega), seg_nb (by omega), seg_nb (by omega), seg_nb (by omega), List.drop_zero]
          have := List.take_append_drop 13 l
          refine Eq.trans ?_ this
          congr 1
          rw [show l.take 13 = l.take (9 + 4) from rfl, take_split l 9 4, show l.take 9 = l.take (8 + 1) from rfl, take_split l 8 1, show l.take 8 = l.take (7 + 1) from rfl, take_split l 7 1, show l.take 7 = l.take (6 + 1) from rfl, take_split l 6 1, show l.take 6 = l.take (2 + 4) from rfl, take_split l 2 4, show l.take 2 = l.take (1 + 1) from rfl, take_split l 1 1]
        rw [Hd.enc, hb]
        exact hs3
      · cases h
    · rename_i ho; exact absurd h ho
  · cases h
/-- Headers come back from their bytes. -/
theorem decH_enc {h : Hd} (hok : h.ok) (hc : h.chk = true) : decHE h.enc = 0 ∧ decH h.enc = h := by
  obtain ⟨c1, c2, c3, c4, c5, c6⟩ := Hd.chk_is hc
  obtain ⟨o1, o2, o3, o4, o5, o6, o7, o8⟩ := hok
  obtain ⟨w1, w2, w3⟩ := codeN_wid c1
  obtain ⟨s1, s2⟩ := sealB_open (bs h.body)
  have hlist : h.enc.data.toList = h.body ++ [toU8 (sumB (bs h.body) / 256), toU8 (sumB (bs h.body))] := by rw [Hd.enc, sealB_list, bs_toList]
  have hbl := h.body_len
  have hc0 : seg h.body 0 1 = 16 + codeN h.wid := by
    unfold Hd.body
    simp only [List.append_assoc]
    exact seg_at (pre := []) rfl (by simp only [show (256 : Nat) ^ 1 = 256 from rfl]; omega)
  have hcand : candH h.body = h := by
    obtain ⟨wid, set, ent, hops, src, grp, id, bits⟩ := h
    simp only at *
    have e1 : seg (Hd.body ⟨wid, set, ent, hops, src, grp, id, bits⟩) 1 1 = set.toNat := by
      unfold Hd.body; simp only [List.append_assoc]; rw [← List.append_assoc]
      exact seg_at (pre := nb (16 + codeN wid) 1) (by simp [nb_len]) (by simp only [show (256 : Nat) ^ 1 = 256 from rfl]; omega)
    have e2 : seg (Hd.body ⟨wid, set, ent, hops, src, grp, id, bits⟩) 2 4 = ent := by
      unfold Hd.body; simp only [List.append_assoc]; rw [← List.append_assoc, ← List.append_assoc]
      exact seg_at (pre := nb (16 + codeN wid) 1 ++ nb set.toNat 1) (by simp [nb_len]) (by simp only [show (256 : Nat) ^ 4 = 4294967296 from rfl]; omega)
    have e3 : seg (Hd.body ⟨wid, set, ent, hops, src, grp, id, bits⟩) 6 1 = hops.toNat := by
      unfold Hd.body; simp only [List.append_assoc]; rw [← List.append_assoc, ← List.append_assoc, ← List.append_assoc]
      exact seg_at (pre := nb (16 + codeN wid) 1 ++ nb set.toNat 1 ++ nb ent 4) (by simp [nb_len]) (by simp only [show (256 : Nat) ^ 1 = 256 from rfl]; omega)
    have e4 : seg (Hd.body ⟨wid, set, ent, hops, src, grp, id, bits⟩) 7 1 = src.toNat := by
      unfold Hd.body; simp only [List.append_assoc]; rw [← List.append_assoc, ← List.append_assoc, ← List.append_assoc, ← List.append_assoc]
      exact seg_at (pre := nb (16 + codeN wid) 1 ++ nb set.toNat 1 ++ nb ent 4 ++ nb hops.toNat 1) (by simp [nb_len]) (by simp only [show (256 : Nat) ^ 1 = 256 from rfl]; omega)
    have e5 : seg (Hd.body ⟨wid, set, ent, hops, src, grp, id, bits⟩) 8 1 = grp.toNat := by
      unfold Hd.body; simp only [List.append_assoc]; rw [← List.append_assoc, ← List.append_assoc, ← List.append_assoc, ← List.append_assoc, ← List.append_assoc]
      exact seg_at (pre := nb (16 + codeN wid) 1 ++ nb set.toNat 1 ++ nb ent 4 ++ nb hops.toNat 1 ++ nb src.toNat 1) (by simp [nb_len]) (by simp only [show (256 : Nat) ^ 1 = 256 from rfl]; omega)
    have e6 : seg (Hd.body ⟨wid, set, ent, hops, src, grp, id, bits⟩) 9 4 = id := by
      unfold Hd.body
      exact seg_at (pre := nb (16 + codeN wid) 1 ++ nb set.toNat 1 ++ nb ent 4 ++ nb hops.toNat 1 ++ nb src.toNat 1 ++ nb grp.toNat 1) (by simp [nb_len]) (by simp only [show (256 : Nat) ^ 4 = 4294967296 from rfl]; omega)
    have e7 : (Hd.body ⟨wid, set, ent, hops, src, grp, id, bits⟩).drop 13 = leB bits.num (wid.toNat / 8) := by
      unfold Hd.body
      rw [List.drop_left' (by simp [nb_len])]
    have hnum : bits.num < 256 ^ (wid.toNat / 8) := by
      have := c6
      simp only [below, decide_eq_true_eq] at this
      rw [pow256, show 8 * (wid.toNat / 8) = wid.toNat from by rcases wide_cases c1 with rfl | rfl | rfl | rfl | rfl | rfl <;> decide]
      exact this.2.2
    rw [candH, e1, e2, e3, e4, e5, e6, e7, hc0, leVal_leB, Nat.mod_eq_of_lt hnum, Bt.of_num o8]
    simp only [Hd.mk.injEq, and_true, true_and]
    refine ⟨?_, ?_, ?_, ?_, ?_⟩
    · rw [show 16 + codeN wid - 16 = codeN wid from by omega]; exact w1.symm
    · omega
    · omega
    · omega
    · omega
  have hform : formH h.enc.data.toList = true := by
    have hs0 : seg h.enc.data.toList 0 1 = 16 + codeN h.wid := by rw [hlist, seg_append (by omega), hc0]
    simp only [formH, Bool.and_eq_true, decide_eq_true_eq, hs0]
    have hl : h.enc.data.toList.length = 15 + 2 ^ codeN h.wid := by rw [hlist, List.length_append, hbl, w3]; simp; omega
    rw [hl, show 16 + codeN h.wid - 16 = codeN h.wid from by omega]
    exact ⟨⟨⟨by omega, by omega⟩, by omega⟩, rfl⟩
  have hop : (openS h.enc).data.toList = h.body := by rw [Hd.enc, s2, bs_toList]
  constructor
  · rw [decHE, if_pos hform, Hd.enc, if_pos s1, ← Hd.enc, hop, hcand, if_pos hc]
  · rw [decH, if_pos ⟨hform, s1, by rw [hop, hcand]; exact hc⟩, hop, hcand]
theorem Hd.enc_size {h : Hd} (hc : h.chk = true) : (h.enc.size : Int) = sizeV h.wid := by
  obtain ⟨c1, _⟩ := Hd.chk_is hc
  rw [Hd.enc, sealB_size, bs_size, h.body_len, sizeV, if_pos c1]
  rcases wide_cases c1 with e | e | e | e | e | e <;> rw [e] <;> decide
theorem form_of {s : ByteArray} (h : decHE s = 0) : formH s.data.toList = true := by
  by_cases hf : formH s.data.toList = true
  · exact hf
  · rw [decHE, if_neg hf] at h; cases h
theorem size_eq (s : ByteArray) : s.data.toList.length = s.size := by simp
/-- No other length. -/
theorem decH_other {h : Hd} (hok : h.ok) (hc : h.chk = true) {s : ByteArray} (hs : s.size ≠ h.enc.size) (h0 : seg s.data.toList 0 1 = seg h.enc.data.toList 0 1) : decHE s = 4 := by
  obtain ⟨c1, _⟩ := Hd.chk_is hc
  obtain ⟨d1, d2⟩ := decH_enc hok hc
  have hf := form_of d1
  have e1 := size_eq s
  have e2 := size_eq h.enc
  generalize h.enc = t at *
  have : formH s.data.toList = false := by
    rw [← Bool.not_eq_true]
    intro hg
    simp only [formH, Bool.and_eq_true, decide_eq_true_eq] at hf hg
    rw [h0] at hg
    have h1 := hg.2
    have h2 := hf.2
    omega
  rw [decHE, this]
  rfl

end Go.Proofs.YtickjmkkgcfkhaaGreat
