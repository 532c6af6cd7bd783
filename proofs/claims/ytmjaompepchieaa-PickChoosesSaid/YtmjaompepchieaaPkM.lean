/- The merge of two sorted pieces in place, plain: where things go, and that the answer is sorted. -/
import Derived.Test.YtmjaompepchieaaPkL
set_option linter.unusedSimpArgs false
set_option linter.unusedVariables false
namespace Go.Proofs.Ytmjaompepchieaa
open Go.Sort

variable {α : Type} [Inhabited α] {lt : α → α → Bool}
omit [Inhabited α] in
theorem swo_asymm (h : SWO lt) {x y : α} (hxy : lt x y = true) : lt y x = false := by
  cases hyx : lt y x with
  | false => rfl
  | true => have := h.trans _ _ _ hxy hyx; rw [h.irrefl] at this; cases this

/-- Where the element at a place came from: two blocks of n exchanged; a block rotated; one moved to the right, to the left. -/
def swIx (a b n k : Nat) : Nat := if a ≤ k ∧ k < a + n then k + (b - a) else if b ≤ k ∧ k < b + n then k - (b - a) else k
def rotIx (a m b k : Nat) : Nat := if k < a ∨ b ≤ k then k else if k < a + (b - m) then k + (m - a) else k - (b - m)
def mvIx (a i k : Nat) : Nat := if a ≤ k ∧ k < i then k + 1 else if k = i then a else k
def mlIx (m i k : Nat) : Nat := if k = i then m else if i < k ∧ k ≤ m then k - 1 else k
def Comes (φ : Nat → Nat) (d f : Array α) : Prop := f.size = d.size ∧ ∀ k, f[k]! = d[φ k]!
theorem Comes.refl {φ : Nat → Nat} (d : Array α) (h : ∀ k, φ k = k) : Comes φ d d := ⟨rfl, fun k => by rw [h]⟩
theorem Comes.comp {φ ψ χ : Nat → Nat} {d e f : Array α} (h1 : Comes φ d e) (h2 : Comes ψ e f) (h : ∀ k, φ (ψ k) = χ k) : Comes χ d f := ⟨h2.1.trans h1.1, fun k => by rw [h2.2, h1.2, h]⟩
theorem Comes.swap {φ χ : Nat → Nat} {d e : Array α} (h1 : Comes φ d e) {i j : Nat} (hi : i < d.size) (hj : j < d.size) (hij : i ≠ j) (h : ∀ k, φ (if k = i then j else if k = j then i else k) = χ k) : Comes χ d (swp e i j) := by
  refine ⟨(size_swp _ _ _).trans h1.1, fun k => ?_⟩
  rw [← h]
  by_cases ki : k = i
  · rw [if_pos ki, ki, swp_left _ _ _ (by rw [h1.1]; exact hi) hij, h1.2]
  · by_cases kj : k = j
    · rw [if_neg ki, if_pos kj, kj, swp_right _ _ _ (by rw [h1.1]; exact hj), h1.2]
    · rw [if_neg ki, if_neg kj, swp_other _ _ _ _ ki kj, h1.2]
theorem sw_zero (a b k : Nat) : swIx a b 0 k = k := by unfold swIx; split <;> (try split) <;> omega
theorem sw_step {a b n : Nat} (h : a + n < b) (k : Nat) : swIx a b n (if k = a + n then b + n else if k = b + n then a + n else k) = swIx a b (n + 1) k := by
  unfold swIx
  (repeat' split) <;> omega
theorem mv_zero (a k : Nat) : mvIx a a k = k := by unfold mvIx; split <;> (try split) <;> omega
theorem mv_step {a i : Nat} (h : a ≤ i) (k : Nat) : mvIx a i (if k = i then i + 1 else if k = i + 1 then i else k) = mvIx a (i + 1) k := by
  unfold mvIx
  (repeat' split) <;> omega
theorem ml_zero (m k : Nat) : mlIx m m k = k := by unfold mlIx; split <;> (try split) <;> omega
theorem ml_step {m i : Nat} (h : i + 1 ≤ m) (k : Nat) : mlIx m (i + 1) (if k = i + 1 then i else if k = i then i + 1 else k) = mlIx m i k := by
  unfold mlIx
  (repeat' split) <;> omega
/-- A rotation by exchanges: the left block is the longer, the shorter; they are alike. -/
theorem rot_left {m i j : Nat} (hm : i ≤ m) (h : j < i) (k : Nat) : swIx (m - i) m j (rotIx (m - (i - j)) m (m + j) k) = rotIx (m - i) m (m + j) k := by
  unfold swIx rotIx
  (repeat' split) <;> omega
theorem rot_right {m i j : Nat} (hm : i ≤ m) (h : i < j) (k : Nat) : swIx (m - i) (m + j - i) i (rotIx (m - i) m (m + (j - i)) k) = rotIx (m - i) m (m + j) k := by
  unfold swIx rotIx
  (repeat' split) <;> omega
theorem rot_even {m i : Nat} (hm : i ≤ m) (k : Nat) : swIx (m - i) m i k = rotIx (m - i) m (m + i) k := by
  unfold swIx rotIx
  (repeat' split) <;> omega
theorem rot_none {a m b : Nat} (hm : a ≤ m) (hb : m ≤ b) (h : a = m ∨ m = b) (k : Nat) : rotIx a m b k = k := by
  unfold rotIx
  split <;> (try split) <;> (try split) <;> omega

/-- One element goes in among the sorted ones to its right. -/
theorem mv_sorted (hS : SWO lt) {a m b i : Nat} {d f : Array α} (hm : m = a + 1) (hR : SortedIn lt m b d) (hi : m ≤ i) (hib : i ≤ b) (h1 : i = m ∨ lt d[i - 1]! d[a]! = true) (h2 : i = b ∨ lt d[i]! d[a]! = false) (hf : Comes (mvIx a (i - 1)) d f) : SortedIn lt a b f := by
  have lo : ∀ k, m ≤ k → k < i → lt d[a]! d[k]! = false := fun k hk hki => by
    have h3 : lt d[a]! d[i - 1]! = false := by
      rcases h1 with h1 | h1
      · omega
      · exact swo_asymm hS h1
    by_cases hkk : k = i - 1
    · rw [hkk]; exact h3
    · exact hS.ntrans _ _ _ h3 (hR k (i - 1) hk (by omega) (by omega))
  have hi' : ∀ k, i ≤ k → k < b → lt d[k]! d[a]! = false := fun k hk hkb => by
    have h3 : lt d[i]! d[a]! = false := by
      rcases h2 with h2 | h2
      · omega
      · exact h2
    by_cases hkk : k = i
    · rw [hkk]; exact h3
    · exact hS.ntrans _ _ _ (hR i k hi (by omega) hkb) h3
  intro p q hp hpq hq
  rw [hf.2, hf.2]
  unfold mvIx
  by_cases q1 : q < i - 1
  · rw [if_pos ⟨by omega, q1⟩, if_pos ⟨by omega, by omega⟩]
    exact hR _ _ (by omega) (by omega) (by omega)
  · by_cases q2 : q = i - 1
    · rw [if_neg (by omega), if_pos q2, if_pos ⟨by omega, by omega⟩]
      exact lo _ (by omega) (by omega)
    · rw [if_neg (by omega), if_neg q2]
      by_cases p1 : p < i - 1
      · rw [if_pos ⟨by omega, p1⟩]
        exact hR _ _ (by omega) (by omega) hq
      · by_cases p2 : p = i - 1
        · rw [if_neg (by omega), if_pos p2]
          exact hi' _ (by omega) hq
        · rw [if_neg (by omega), if_neg p2]
          exact hR _ _ (by omega) hpq hq
/-- One element goes in among the sorted ones to its left. -/
theorem ml_sorted (hS : SWO lt) {a m b i : Nat} {d f : Array α} (hb : b = m + 1) (hL : SortedIn lt a m d) (hi : a ≤ i) (him : i ≤ m) (h1 : i = a ∨ lt d[m]! d[i - 1]! = false) (h2 : i = m ∨ lt d[m]! d[i]! = true) (hf : Comes (mlIx m i) d f) : SortedIn lt a b f := by
  have lo : ∀ k, a ≤ k → k < i → lt d[m]! d[k]! = false := fun k hk hki => by
    have h3 : lt d[m]! d[i - 1]! = false := by
      rcases h1 with h1 | h1
      · omega
      · exact h1
    by_cases hkk : k = i - 1
    · rw [hkk]; exact h3
    · exact hS.ntrans _ _ _ h3 (hL k (i - 1) hk (by omega) (by omega))
  have hi' : ∀ k, i ≤ k → k < m → lt d[k]! d[m]! = false := fun k hk hkb => by
    have h3 : lt d[i]! d[m]! = false := by
      rcases h2 with h2 | h2
      · omega
      · exact swo_asymm hS h2
    by_cases hkk : k = i
    · rw [hkk]; exact h3
    · exact hS.ntrans _ _ _ (hL i k hi (by omega) hkb) h3
  intro p q hp hpq hq
  rw [hf.2, hf.2]
  unfold mlIx
  by_cases q1 : q < i
  · rw [if_neg (by omega), if_neg (by omega), if_neg (by omega), if_neg (by omega)]
    exact hL _ _ (by omega) hpq (by omega)
  · by_cases q2 : q = i
    · rw [if_pos q2, if_neg (by omega), if_neg (by omega)]
      exact lo _ hp (by omega)
    · rw [if_neg q2, if_pos ⟨by omega, by omega⟩]
      by_cases p1 : p < i
      · rw [if_neg (by omega), if_neg (by omega)]
        exact hL _ _ hp (by omega) (by omega)
      · by_cases p2 : p = i
        · rw [if_pos p2]
          exact hi' _ (by omega) (by omega)
        · rw [if_neg p2, if_pos ⟨by omega, by omega⟩]
          exact hL _ _ (by omega) (by omega) (by omega)

/-- What the search for the place of the rotation has found. -/
structure Cut (lt : α → α → Bool) (d : Array α) (a m b s : Nat) : Prop where
  ham : a < m
  hmb : m < b
  lo : (if (a + b) / 2 < m then (a + b) / 2 + m - b else a) ≤ s
  hi : s ≤ (if (a + b) / 2 < m then (a + b) / 2 else m)
  hL : s = (if (a + b) / 2 < m then (a + b) / 2 + m - b else a) ∨ lt d[(a + b) / 2 + m - s]! d[s - 1]! = false
  hR : s = (if (a + b) / 2 < m then (a + b) / 2 else m) ∨ lt d[(a + b) / 2 + m - 1 - s]! d[s]! = true
theorem Cut.at {d : Array α} {a m b s : Nat} (h : Cut lt d a m b s) : a ≤ s ∧ s ≤ m ∧ s ≤ (a + b) / 2 ∧ m ≤ (a + b) / 2 + m - s ∧ (a + b) / 2 + m - s ≤ b := by
  have := h.ham; have := h.hmb; have := h.lo; have := h.hi
  by_cases hc : (a + b) / 2 < m
  · rw [if_pos hc] at *; omega
  · rw [if_neg hc] at *; omega
theorem rot_lt {s m e k : Nat} (h : k < s) : rotIx s m e k = k := by unfold rotIx; rw [if_pos (.inl h)]
theorem rot_ge {s m e k : Nat} (h : e ≤ k) : rotIx s m e k = k := by unfold rotIx; rw [if_pos (.inr h)]
theorem rot_a {s m e k : Nat} (h1 : s ≤ k) (h2 : k < s + (e - m)) (h3 : k < e) : rotIx s m e k = k + (m - s) := by unfold rotIx; rw [if_neg (by omega), if_pos h2]
theorem rot_b {s m e k : Nat} (h1 : s + (e - m) ≤ k) (h3 : k < e) : rotIx s m e k = k - (e - m) := by unfold rotIx; rw [if_neg (by omega), if_neg (by omega)]

theorem cut_cross (hS : SWO lt) {a m b s : Nat} {d f : Array α} (hL : SortedIn lt a m d) (hR : SortedIn lt m b d) (hc : Cut lt d a m b s) (hf : Comes (rotIx s m ((a + b) / 2 + m - s)) d f) :
    (∀ p q, a ≤ p → p < (a + b) / 2 → (a + b) / 2 ≤ q → q < b → lt f[q]! f[p]! = false) ∧ SortedIn lt a s f ∧ SortedIn lt s ((a + b) / 2) f ∧ SortedIn lt ((a + b) / 2) ((a + b) / 2 + m - s) f ∧ SortedIn lt ((a + b) / 2 + m - s) b f := by
  obtain ⟨h1, h2, h3, h4, h5⟩ := hc.at
  have ham := hc.ham
  have hmb := hc.hmb
  have cL := hc.hL
  have cR := hc.hR
  obtain ⟨mid, hmid⟩ : ∃ mid, mid = (a + b) / 2 := ⟨_, rfl⟩
  rw [← hmid] at h3 h4 h5 cL cR hf ⊢
  obtain ⟨e, he⟩ : ∃ e, e = mid + m - s := ⟨_, rfl⟩
  rw [← he] at h4 h5 cL hf ⊢
  have hem : s + (e - m) = mid := by omega
  refine ⟨?_, ?_, ?_, ?_, ?_⟩
  · intro p q hp hpm hq hqb
    rw [hf.2, hf.2]
    by_cases p1 : p < s
    · rw [rot_lt p1]
      by_cases q1 : q < e
      · rw [rot_b (by omega) q1]
        exact hL _ _ hp (by omega) (by omega)
      · rw [rot_ge (by omega)]
        have k1 : lt d[e]! d[s - 1]! = false := by
          rcases cL with cL | cL
          · by_cases hcc : mid < m
            · rw [if_pos hcc] at cL; omega
            · rw [if_neg hcc] at cL; omega
          · exact cL
        have k2 : lt d[s - 1]! d[p]! = false := by
          by_cases hps : p = s - 1
          · rw [hps]; exact hS.irrefl _
          · exact hL _ _ hp (by omega) (by omega)
        have k3 : lt d[q]! d[e]! = false := by
          by_cases hqe : q = e
          · rw [hqe]; exact hS.irrefl _
          · exact hR _ _ h4 (by omega) hqb
        exact hS.ntrans _ _ _ k3 (hS.ntrans _ _ _ k1 k2)
    · rw [rot_a (k := p) (by omega) (by omega) (by omega)]
      by_cases q1 : q < e
      · rw [rot_b (by omega) q1]
        have k1 : lt d[s]! d[e - 1]! = false := by
          rcases cR with cR | cR
          · by_cases hcc : mid < m
            · rw [if_pos hcc] at cR; omega
            · rw [if_neg hcc] at cR; omega
          · rw [show mid + m - 1 - s = e - 1 by omega] at cR
            exact swo_asymm hS cR
        have k2 : lt d[e - 1]! d[p + (m - s)]! = false := by
          by_cases hps : p + (m - s) = e - 1
          · rw [hps]; exact hS.irrefl _
          · exact hR _ _ (by omega) (by omega) (by omega)
        have k3 : lt d[q - (e - m)]! d[s]! = false := by
          by_cases hqe : q - (e - m) = s
          · rw [hqe]; exact hS.irrefl _
          · exact hL _ _ h1 (by omega) (by omega)
        exact hS.ntrans _ _ _ k3 (hS.ntrans _ _ _ k1 k2)
      · rw [rot_ge (by omega)]
        exact hR _ _ (by omega) (by omega) hqb
  · intro p q hp hpq hq
    rw [hf.2, hf.2, rot_lt (k := q) hq, rot_lt (k := p) (by omega)]
    exact hL _ _ hp hpq (by omega)
  · intro p q hp hpq hq
    rw [hf.2, hf.2, rot_a (k := q) (by omega) (by omega) (by omega), rot_a (k := p) (by omega) (by omega) (by omega)]
    exact hR _ _ (by omega) (by omega) (by omega)
  · intro p q hp hpq hq
    rw [hf.2, hf.2, rot_b (k := q) (by omega) (by omega), rot_b (k := p) (by omega) (by omega)]
    exact hL _ _ (by omega) (by omega) (by omega)
  · intro p q hp hpq hq
    rw [hf.2, hf.2, rot_ge (k := q) (by omega), rot_ge (k := p) (by omega)]
    exact hR _ _ (by omega) hpq hq

theorem sorted_none {a b : Nat} {d : Array α} (h : b ≤ a) : SortedIn lt a b d := fun i j hi hij hj => by omega
theorem sorted_keep {a b A B : Nat} {d f : Array α} (h : SortedIn lt a b d) (hp : PermIn A B d f) (hd : b ≤ A ∨ B ≤ a) : SortedIn lt a b f := fun i j hi hij hj => by
  rw [hp.2.1 j (by omega), hp.2.1 i (by omega)]
  exact h i j hi hij hj
/-- The two halves, each sorted of itself, are sorted together. -/
theorem sym_join {a mid b : Nat} {f g h : Array α} (hb : b ≤ f.size) (ham : a ≤ mid) (hmb : mid ≤ b) (hx : ∀ p q, a ≤ p → p < mid → mid ≤ q → q < b → lt f[q]! f[p]! = false) (hg : PermIn a mid f g) (sg : SortedIn lt a mid g) (hh : PermIn mid b g h) (sh : SortedIn lt mid b h) : PermIn a b f h ∧ SortedIn lt a b h := by
  have hgs : g.size = f.size := hg.1
  refine ⟨permIn_trans _ _ _ _ _ (permIn_mono f g a mid a b (Nat.le_refl _) hmb hb hg) (permIn_mono g h mid b a b ham (Nat.le_refl _) (by omega) hh), ?_⟩
  intro p q hp hpq hq
  by_cases q1 : q < mid
  · rw [hh.2.1 q (.inl q1), hh.2.1 p (.inl (by omega))]
    exact sg p q hp hpq q1
  · by_cases p1 : p < mid
    · rw [hh.2.1 p (.inl p1)]
      refine permIn_all g h mid b (fun y => lt y g[p]! = false) (by omega) hh ?_ q (by omega) hq
      intro i hi1 hi2
      rw [hg.2.1 i (.inr hi1)]
      exact permIn_all f g a mid (fun y => lt f[i]! y = false) (by omega) hg (fun j hj1 hj2 => hx j i hj1 hj2 hi1 hi2) p hp p1
    · exact sh p q (by omega) hpq hq

end Go.Proofs.Ytmjaompepchieaa
