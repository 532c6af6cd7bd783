/- The plain law of the tally's counts: whatever order steps are noted in, each router has the same counts, and all of them are the sum. -/
import Derived.Test.YtnfdkgmikijbgaaTallyJ
set_option linter.unusedSimpArgs false
set_option linter.unusedVariables false
namespace Go.Proofs.Ytnfdkgmikijbgaa

/-- A step noted. -/
def stepT (L : List Cn) (m : Mk) : List Cn := L.set m.r ((L.getD m.r default).add m.cn)
theorem stepT_len (L : List Cn) (m : Mk) : (stepT L m).length = L.length := by simp [stepT]
theorem foldT_len : ∀ (M : List Mk) (L : List Cn), (M.foldl stepT L).length = L.length
  | [], _ => rfl
  | m :: M, L => by rw [List.foldl_cons, foldT_len M, stepT_len]
/-- Numbers added, as they are. -/
def Cn.pl (a c : Cn) : Cn := ⟨a.got + c.got, a.loc + c.loc, a.cop + c.cop, a.los + c.los, a.exp + c.exp, a.bad + c.bad⟩
def Cn.small (c : Cn) (b : Int) : Prop := (0 ≤ c.got ∧ c.got ≤ b) ∧ (0 ≤ c.loc ∧ c.loc ≤ b) ∧ (0 ≤ c.cop ∧ c.cop ≤ b) ∧ (0 ≤ c.los ∧ c.los ≤ b) ∧ (0 ≤ c.exp ∧ c.exp ≤ b) ∧ (0 ≤ c.bad ∧ c.bad ≤ b)
theorem sat_in {a b : Int} (h : a + b ≤ 1000000000) : sat a b = a + b := by unfold sat; rw [if_pos (by omega)]
theorem Cn.add_small {a c : Cn} {p q : Int} (ha : a.small p) (hc : c.small q) (h : p + q ≤ 1000000000) : a.add c = a.pl c := by
  obtain ⟨a0, a1, a2, a3, a4, a5⟩ := ha
  obtain ⟨c0, c1, c2, c3, c4, c5⟩ := hc
  unfold Cn.add Cn.pl
  rw [sat_in (by omega), sat_in (by omega), sat_in (by omega), sat_in (by omega), sat_in (by omega), sat_in (by omega)]
theorem Cn.pl_small {a c : Cn} {p q : Int} (ha : a.small p) (hc : c.small q) : (a.pl c).small (p + q) := by
  obtain ⟨a0, a1, a2, a3, a4, a5⟩ := ha
  obtain ⟨c0, c1, c2, c3, c4, c5⟩ := hc
  unfold Cn.small Cn.pl
  simp only
  omega
theorem Cn.small_le {a : Cn} {p q : Int} (ha : a.small p) (h : p ≤ q) : a.small q := by
  obtain ⟨a0, a1, a2, a3, a4, a5⟩ := ha
  unfold Cn.small
  omega
theorem Cn.pl_zero (a : Cn) : a.pl Cn.zero = a := by unfold Cn.pl Cn.zero; simp
theorem Cn.zero_pl (a : Cn) : Cn.zero.pl a = a := by unfold Cn.pl Cn.zero; simp
theorem Cn.pl_comm (a b : Cn) : a.pl b = b.pl a := by unfold Cn.pl; simp [Int.add_comm]
theorem Cn.pl_assoc (a b c : Cn) : (a.pl b).pl c = a.pl (b.pl c) := by unfold Cn.pl; simp [Int.add_assoc]
theorem Cn.zero_small : Cn.zero.small 0 := by unfold Cn.small Cn.zero; simp
theorem Mk.cn_small {m : Mk} (h : m.ok) : m.cn.small 512 := by
  have a0 := popc_lt m.los.a; have a1 := popc_lt m.los.b; have a2 := popc_lt m.los.c; have a3 := popc_lt m.los.d
  have b0 := popc_lt m.exp.a; have b1 := popc_lt m.exp.b; have b2 := popc_lt m.exp.c; have b3 := popc_lt m.exp.d
  obtain ⟨_, ⟨h1, h2⟩, _⟩ := h
  unfold Mk.cn Dn.of Mk.dn Cn.small B4.cnt
  simp only
  refine ⟨by omega, by split <;> omega, by omega, by omega, by omega, by omega⟩
theorem Mk.cn_got (m : Mk) : m.cn.got = 1 := rfl

/-- What the steps of one router come to. -/
def tot (r : Nat) : List Mk → Cn
  | [] => Cn.zero
  | m :: M => if m.r = r then m.cn.pl (tot r M) else tot r M
theorem tot_append (r : Nat) : ∀ M N : List Mk, tot r (M ++ N) = (tot r M).pl (tot r N)
  | [], N => (Cn.zero_pl _).symm
  | m :: M, N => by
    rw [List.cons_append, tot, tot, tot_append r M N]
    split
    · rw [Cn.pl_assoc]
    · rfl
theorem tot_reverse (r : Nat) : ∀ M : List Mk, tot r M.reverse = tot r M
  | [] => rfl
  | m :: M => by
    rw [List.reverse_cons, tot_append, tot_reverse r M, tot, tot, tot]
    split
    · rw [Cn.pl_zero, Cn.pl_comm]
    · rw [Cn.pl_zero]
theorem tot_small (r : Nat) : ∀ M : List Mk, (∀ m ∈ M, m.ok) → (tot r M).small (512 * M.length)
  | [], _ => by simpa [tot] using Cn.zero_small
  | m :: M, h => by
    have ih := tot_small r M fun x hx => h x (by simp [hx])
    rw [tot, List.length_cons]
    split
    · exact Cn.small_le (Cn.pl_small (Mk.cn_small (h m (by simp))) ih) (by omega)
    · exact Cn.small_le ih (by omega)
theorem fold_get : ∀ (M : List Mk) (L : List Cn) (b : Int), L.length = 25 → (∀ r, r < 25 → (L.getD r default).small b) → 0 ≤ b → b + 512 * M.length ≤ 1000000 → (∀ m ∈ M, m.ok) →
    ∀ r, r < 25 → (M.foldl stepT L).getD r default = (L.getD r default).pl (tot r M)
  | [], L, b, _, _, _, _, _, r, _ => (Cn.pl_zero _).symm
  | m :: M, L, b, hl, hs, hb, hm, hok, r, hr => by
    have hmr := Mk.r_le m
    have hcs := Mk.cn_small (hok m (by simp))
    have hadd : (L.getD m.r default).add m.cn = (L.getD m.r default).pl m.cn := Cn.add_small (hs _ (by omega)) hcs (by simp at hm; omega)
    have hget : ∀ q, q < 25 → (stepT L m).getD q default = if m.r = q then (L.getD q default).pl m.cn else L.getD q default := by
      intro q hq
      unfold stepT
      rw [List.getD_eq_getElem?_getD]
      by_cases e : m.r = q
      · subst e
        rw [if_pos rfl, List.getElem?_set_self (by omega), hadd]; rfl
      · rw [if_neg e, List.getElem?_set_ne e, List.getD_eq_getElem?_getD]
    rw [List.foldl_cons, fold_get M (stepT L m) (b + 512) (by rw [stepT_len, hl]) (fun q hq => by
      rw [hget q hq]
      split
      · exact Cn.pl_small (hs q hq) hcs
      · exact Cn.small_le (hs q hq) (by omega)) (by omega) (by simp at hm; omega) (fun x hx => hok x (by simp [hx])) r hr, hget r hr, tot]
    split
    · rw [Cn.pl_assoc]
    · rfl
theorem tl0_get {r : Nat} (hr : r < 25) : tl0.getD r default = Cn.zero := by
  unfold tl0
  rw [List.getD_eq_getElem?_getD, List.getElem?_replicate, if_pos hr]; rfl
theorem run_get {M : List Mk} (hM : M.length ≤ 50) (hok : ∀ m ∈ M, m.ok) {r : Nat} (hr : r < 25) : (M.foldl stepT tl0).getD r default = tot r M := by
  rw [fold_get M tl0 0 (by simp [tl0]) (fun q hq => by rw [tl0_get hq]; exact Cn.zero_small) (by omega) (by omega) hok r hr, tl0_get hr, Cn.zero_pl]

/-- The sum of the routers 1 to k. -/
def sumR (M : List Mk) : Nat → Cn
  | 0 => Cn.zero
  | k + 1 => (sumR M k).pl (tot (k + 1) M)
theorem sumR_small {M : List Mk} (hM : M.length ≤ 50) (hok : ∀ m ∈ M, m.ok) : ∀ k, (sumR M k).small (25600 * k)
  | 0 => Cn.zero_small
  | k + 1 => Cn.small_le (Cn.pl_small (sumR_small hM hok k) (tot_small _ M hok)) (by omega)
theorem tot_zero : ∀ M : List Mk, tot 0 M = Cn.zero
  | [] => rfl
  | m :: M => by rw [tot, if_neg (by have := Mk.r_le m; omega), tot_zero M]
theorem sumC_run {M : List Mk} (hM : M.length ≤ 50) (hok : ∀ m ∈ M, m.ok) {L : List Cn} (hl : L.length = 25) (hg : ∀ r, r < 25 → L.getD r default = tot r M) : ∀ k, k ≤ 24 → sumC (L.take (k + 1)) = sumR M k
  | 0, _ => by
    rw [← sumC_take (by omega), List.take_zero, hg 0 (by omega), tot_zero]
    rfl
  | k + 1, h => by
    rw [← sumC_take (by omega), sumC_run hM hok hl hg k (by omega), hg (k + 1) (by omega), sumR]
    exact Cn.add_small (sumR_small hM hok k) (tot_small _ M hok) (by omega)
theorem sumC_all {M : List Mk} (hM : M.length ≤ 50) (hok : ∀ m ∈ M, m.ok) {L : List Cn} (hl : L.length = 25) (hg : ∀ r, r < 25 → L.getD r default = tot r M) : sumC L = sumR M 24 := by
  rw [← sumC_run hM hok hl hg 24 (by omega), List.take_of_length_le (by omega)]
def le1 (k : Nat) (m : Mk) : Bool := decide (m.r ≤ k)
theorem tot_got (r : Nat) : ∀ M : List Mk, (tot r M).got = (M.countP fun m => decide (m.r = r) : Nat)
  | [] => rfl
  | m :: M => by
    rw [tot, List.countP_cons]
    split
    · rename_i h
      show m.cn.got + (tot r M).got = _
      rw [tot_got r M, Mk.cn_got]
      simp [h]; omega
    · rename_i h
      rw [tot_got r M]
      simp [h]
theorem count_split (k : Nat) : ∀ M : List Mk, (M.countP fun m => decide (m.r ≤ k + 1)) = (M.countP fun m => decide (m.r ≤ k)) + M.countP fun m => decide (m.r = k + 1)
  | [] => rfl
  | m :: M => by
    rw [List.countP_cons, List.countP_cons, List.countP_cons, count_split k M]
    have h : (m.r ≤ k + 1) ↔ (m.r ≤ k ∨ m.r = k + 1) := by omega
    by_cases h1 : m.r ≤ k
    · have h2 : ¬ m.r = k + 1 := by omega
      have h3 : m.r ≤ k + 1 := by omega
      simp [h1, h2, h3]; omega
    · by_cases h2 : m.r = k + 1
      · have h4 : ¬ k + 1 ≤ k := by omega
        simp [h2, h4]; omega
      · have h3 : ¬ m.r ≤ k + 1 := by omega
        simp [h1, h2, h3]
theorem sumR_got (M : List Mk) : ∀ k, (sumR M k).got = (M.countP fun m => decide (m.r ≤ k) : Nat)
  | 0 => by
    have : (M.countP fun m => decide (m.r ≤ 0)) = 0 := List.countP_eq_zero.2 fun m _ => by have := Mk.r_le m; simp; omega
    rw [this]; rfl
  | k + 1 => by
    show (sumR M k).got + (tot (k + 1) M).got = _
    rw [sumR_got M k, tot_got, count_split]
    omega
theorem sumR_all (M : List Mk) : (sumR M 24).got = (M.length : Nat) := by
  rw [sumR_got]
  congr 1
  exact List.countP_eq_length.2 fun m _ => by have := Mk.r_le m; simp; omega

theorem fold_take {M : List Mk} {k : Nat} {m : Mk} (h : M[k]? = some m) (L : List Cn) : stepT ((M.take k).foldl stepT L) m = (M.take (k + 1)).foldl stepT L := by
  obtain ⟨hk, rfl⟩ := List.getElem?_eq_some_iff.1 h
  rw [List.take_succ_eq_append_getElem hk, List.foldl_append]
  rfl
theorem rev_get {l : List Mk} {n k q : Nat} (hn : n ≤ l.length) (hq : q + k + 1 = n) : (l.take n).reverse[k]? = l[q]? := by
  rw [List.getElem?_reverse (by simp; omega), List.length_take, Nat.min_eq_left hn, List.getElem?_take, show n - 1 - k = q from by omega, if_pos (by omega)]

end Go.Proofs.Ytnfdkgmikijbgaa
