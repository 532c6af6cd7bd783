/- A heap in a list: sifting up, sifting down, what they keep; the order by keys, the earlier one first; the least one comes. No program is in sight. -/
set_option linter.unusedSimpArgs false
set_option linter.unusedVariables false
namespace Go.Proofs.Ytbigglcolfbglaa

section
variable {β : Type} [Inhabited β]

/-- The thing at a place. -/
def g (L : List (β × Nat)) (i : Nat) : β × Nat := L.getD i default
/-- Two change places. -/
def sw (L : List (β × Nat)) (i j : Nat) : List (β × Nat) := (L.set i (g L j)).set j (g L i)

theorem sw_length (L : List (β × Nat)) (i j : Nat) : (sw L i j).length = L.length := by simp [sw]
theorem g_eq {L : List (β × Nat)} {i : Nat} (h : i < L.length) : g L i = L[i] := by simp [g, List.getD_eq_getElem?_getD, h]
theorem g_some {L : List (β × Nat)} {i : Nat} (h : i < L.length) : L[i]? = some (g L i) := by rw [g_eq h]; simp [h]
theorem g_set {L : List (β × Nat)} {i : Nat} (h : i < L.length) (x : β × Nat) (k : Nat) : g (L.set i x) k = if k = i then x else g L k := by
  unfold g
  rw [List.getD_eq_getElem?_getD, List.getD_eq_getElem?_getD, List.getElem?_set]
  by_cases e : i = k
  · subst e; simp [h]
  · simp [e, Ne.symm e]
theorem g_sw {L : List (β × Nat)} {i j : Nat} (hi : i < L.length) (hj : j < L.length) (k : Nat) : g (sw L i j) k = if k = j then g L i else if k = i then g L j else g L k := by
  unfold sw
  rw [g_set (by simpa using hj), g_set hi]
theorem sw_perm {L : List (β × Nat)} {i j : Nat} (hi : i < L.length) (hj : j < L.length) : (sw L i j).Perm L := by
  unfold sw
  rw [g_eq hi, g_eq hj]
  exact List.set_set_perm hi hj

variable (ah : β × Nat → β × Nat → Bool)

/-- A thing goes up. -/
def up (i : Nat) (L : List (β × Nat)) : List (β × Nat) :=
  if h : i = 0 then L else if ah (g L i) (g L ((i - 1) / 2)) = true then up ((i - 1) / 2) (sw L i ((i - 1) / 2)) else L
termination_by i
decreasing_by omega

theorem up_zero (L : List (β × Nat)) : up ah 0 L = L := by rw [up]; simp
theorem up_go {i : Nat} {L : List (β × Nat)} (h : 0 < i) (ha : ah (g L i) (g L ((i - 1) / 2)) = true) : up ah i L = up ah ((i - 1) / 2) (sw L i ((i - 1) / 2)) := by
  rw [up, dif_neg (by omega), if_pos ha]
theorem up_end {i : Nat} {L : List (β × Nat)} (h : 0 < i) (ha : ah (g L i) (g L ((i - 1) / 2)) = false) : up ah i L = L := by
  rw [up, dif_neg (by omega), if_neg (by rw [ha]; simp)]
theorem up_perm (i : Nat) : ∀ L : List (β × Nat), i < L.length → (up ah i L).Perm L := by
  induction i using Nat.strongRecOn with
  | ind i ih =>
    intro L hi
    by_cases h : i = 0
    · subst h; rw [up_zero]
    · cases ha : ah (g L i) (g L ((i - 1) / 2)) with
      | true => rw [up_go ah (by omega) ha]; exact (ih _ (by omega) _ (by rw [sw_length]; omega)).trans (sw_perm hi (by omega))
      | false => rw [up_end ah (by omega) ha]
theorem up_length (i : Nat) (L : List (β × Nat)) (h : i < L.length) : (up ah i L).length = L.length := (up_perm ah i L h).length_eq

/-- The least of a thing and its first j children. -/
def lst (L : List (β × Nat)) (n i : Nat) : Nat → Nat
  | 0 => i
  | j + 1 => if 2 * i + 1 + j < n ∧ ah (g L (2 * i + 1 + j)) (g L (lst L n i j)) = true then 2 * i + 1 + j else lst L n i j
theorem lst_zero (L : List (β × Nat)) (n i : Nat) : lst ah L n i 0 = i := rfl
theorem lst_yes {L : List (β × Nat)} {n i j : Nat} (h : 2 * i + 1 + j < n) (ha : ah (g L (2 * i + 1 + j)) (g L (lst ah L n i j)) = true) : lst ah L n i (j + 1) = 2 * i + 1 + j := by
  rw [lst, if_pos ⟨h, ha⟩]
theorem lst_no {L : List (β × Nat)} {n i j : Nat} (ha : ah (g L (2 * i + 1 + j)) (g L (lst ah L n i j)) = false) : lst ah L n i (j + 1) = lst ah L n i j := by
  rw [lst, if_neg (by rw [ha]; simp)]
theorem lst_out {L : List (β × Nat)} {n i j : Nat} (h : n ≤ 2 * i + 1 + j) : lst ah L n i (j + 1) = lst ah L n i j := by
  rw [lst, if_neg (by omega)]
theorem lst_cases (L : List (β × Nat)) (n i : Nat) : ∀ j, lst ah L n i j = i ∨ (2 * i + 1 ≤ lst ah L n i j ∧ lst ah L n i j ≤ 2 * i + j ∧ lst ah L n i j < n)
  | 0 => .inl rfl
  | j + 1 => by
    have := lst_cases L n i j
    rw [lst]
    split <;> omega
theorem lst_lt {L : List (β × Nat)} {n i : Nat} (hi : i < n) (j : Nat) : lst ah L n i j < n := by have := lst_cases ah L n i j; omega

/-- A thing goes down, of n. -/
def down (n i : Nat) (L : List (β × Nat)) : List (β × Nat) :=
  if h : lst ah L n i 2 = i then L else down n (lst ah L n i 2) (sw L i (lst ah L n i 2))
termination_by n - i
decreasing_by have := lst_cases ah L n i 2; omega

theorem down_end {n i : Nat} {L : List (β × Nat)} (h : lst ah L n i 2 = i) : down ah n i L = L := by rw [down, dif_pos h]
theorem down_go {n i : Nat} {L : List (β × Nat)} (h : lst ah L n i 2 ≠ i) : down ah n i L = down ah n (lst ah L n i 2) (sw L i (lst ah L n i 2)) := by
  rw [down, dif_neg h]
theorem down_perm (n : Nat) : ∀ (m i : Nat) (L : List (β × Nat)), n - i ≤ m → n = L.length → (down ah n i L).Perm L
  | 0, i, L, hm, hn => by
    have := lst_cases ah L n i 2
    rw [down_end ah (by omega)]
  | m + 1, i, L, hm, hn => by
    by_cases h : lst ah L n i 2 = i
    · rw [down_end ah h]
    · rw [down_go ah h]
      have := lst_cases ah L n i 2
      exact (down_perm n m _ _ (by omega) (by rw [sw_length]; exact hn)).trans (sw_perm (by omega) (by omega))

/-- The first one taken out. -/
def popL (L : List (β × Nat)) : List (β × Nat) := down ah (L.length - 1) 0 ((L.set 0 (g L (L.length - 1))).take (L.length - 1))

theorem set_take_perm {L : List (β × Nat)} (h : 0 < L.length) : (g L 0 :: (L.set 0 (g L (L.length - 1))).take (L.length - 1)).Perm L := by
  obtain ⟨x, r, rfl⟩ : ∃ x r, L = x :: r := by cases L with | nil => simp at h | cons x r => exact ⟨x, r, rfl⟩
  simp only [List.length_cons, Nat.add_sub_cancel, List.set_cons_zero]
  rcases List.eq_nil_or_concat r with rfl | ⟨q, y, rfl⟩
  · simp [g]
  · simp only [List.concat_eq_append, List.length_append, List.length_cons, List.length_nil]
    rw [List.take_succ_cons]
    have e1 : g (x :: (q ++ [y])) (q.length + (0 + 1)) = y := by simp [g, List.getD_eq_getElem?_getD]
    have e2 : (q ++ [y]).take q.length = q := by simp
    have e0 : g (x :: (q ++ [y])) 0 = x := by simp [g]
    rw [e1, e2, e0]
    exact List.Perm.cons _ (List.perm_append_comm (l₁ := [y]) (l₂ := q))
theorem popL_perm {L : List (β × Nat)} (h : 0 < L.length) : (g L 0 :: popL ah L).Perm L := by
  refine (List.Perm.cons _ (down_perm ah _ _ 0 _ (Nat.le_refl _) ?_)).trans (set_take_perm h)
  rw [List.length_take, List.length_set]; omega
theorem popL_length {L : List (β × Nat)} (h : 0 < L.length) : (popL ah L).length + 1 = L.length := by
  have := (popL_perm ah h).length_eq
  simpa using this
/-- All of them taken out. -/
def pops (n : Nat) (L : List (β × Nat)) : List β := match n with | 0 => [] | n + 1 => (g L 0).1 :: pops n (popL ah L)
/-- Things pushed, one behind the other. -/
def pushs (L : List (β × Nat)) (n : Nat) : List β → List (β × Nat)
  | [] => L
  | v :: r => pushs (up ah L.length (L ++ [(v, n)])) (n + 1) r
theorem pushs_snoc (l : List β) (v : β) : ∀ (L : List (β × Nat)) (n : Nat), pushs ah L n (l ++ [v]) = up ah (pushs ah L n l).length (pushs ah L n l ++ [(v, n + l.length)]) := by
  induction l with
  | nil => intro L n; simp [pushs]
  | cons x r ih => intro L n; simp only [List.cons_append, pushs, ih, List.length_cons]; rw [show n + 1 + r.length = n + (r.length + 1) from by omega]
theorem pushs_perm (l : List β) : ∀ (L : List (β × Nat)) (n : Nat), (pushs ah L n l).Perm (L ++ l.mapIdx fun i v => (v, n + i)) := by
  induction l with
  | nil => intro L n; simp [pushs]
  | cons x r ih =>
    intro L n
    simp only [pushs, List.mapIdx_cons]
    refine (ih _ _).trans ?_
    refine ((up_perm ah _ _ (by simp)).append_right _).trans ?_
    rw [List.append_assoc]
    refine List.Perm.append_left _ ?_
    simp only [List.singleton_append, Nat.add_zero]
    have : (fun i v => ((v, n + 1 + i) : β × Nat)) = fun i v => (v, n + (i + 1)) := by funext i v; rw [show n + 1 + i = n + (i + 1) from by omega]
    rw [this]
theorem pushs_length (l : List β) (L : List (β × Nat)) (n : Nat) : (pushs ah L n l).length = L.length + l.length := by
  have := (pushs_perm ah l L n).length_eq; simpa using this
theorem pushs_mem {l : List β} {n : Nat} {x : β × Nat} (h : x ∈ pushs ah [] n l) : x.1 ∈ l := by
  have h1 := (pushs_perm ah l [] n).mem_iff.1 h
  rw [List.nil_append, List.mem_mapIdx] at h1
  obtain ⟨i, hi, rfl⟩ := h1
  exact List.getElem_mem hi
theorem popL_mem {L : List (β × Nat)} (h0 : 0 < L.length) {x : β × Nat} (h : x ∈ popL ah L) : x ∈ L := (popL_perm ah h0).mem_iff.1 (List.mem_cons_of_mem _ h)
theorem pops_perm : ∀ (n : Nat) (L : List (β × Nat)), L.length = n → (pops ah n L).Perm (L.map (·.1))
  | 0, L, h => by have := List.eq_nil_of_length_eq_zero h; subst this; simp [pops]
  | n + 1, L, h => by
    have hp := popL_perm ah (L := L) (by omega)
    have hl := popL_length ah (L := L) (by omega)
    refine (List.Perm.cons _ (pops_perm n _ (by omega))).trans ?_
    simpa using hp.map (·.1)
theorem pops_length : ∀ (n : Nat) (L : List (β × Nat)), (pops ah n L).length = n
  | 0, _ => rfl
  | n + 1, L => by simp [pops, pops_length n]
end

section
variable {β : Type} (key : β → Int)
/-- By keys; of those that are as good the earlier one. -/
def kah (a b : β × Nat) : Bool := decide (key a.1 < key b.1 ∨ (key a.1 = key b.1 ∧ a.2 < b.2))
def kle (a b : β × Nat) : Prop := key a.1 < key b.1 ∨ (key a.1 = key b.1 ∧ a.2 ≤ b.2)
variable {key}
theorem kle_trans {a b c : β × Nat} (h : kle key a b) (h' : kle key b c) : kle key a c := by unfold kle at *; omega
theorem kle_of {a b : β × Nat} (h : kah key a b = true) : kle key a b := by simp only [kah, decide_eq_true_eq] at h; unfold kle; omega
theorem kle_not {a b : β × Nat} (h : kah key a b = false) : kle key b a := by simp only [kah, decide_eq_false_iff_not] at h; unfold kle; omega
theorem kle_refl (a : β × Nat) : kle key a a := .inr ⟨rfl, Nat.le_refl _⟩
theorem map_eraseIdx {γ : Type} (f : γ → β) : ∀ (I : List γ) (a : Nat), (I.eraseIdx a).map f = (I.map f).eraseIdx a
  | [], _ => rfl
  | x :: r, 0 => rfl
  | x :: r, a + 1 => by simp [List.eraseIdx, map_eraseIdx f r a]
theorem getElem_eraseIdx_perm : ∀ (I : List β) (a : Nat) (h : a < I.length), (I[a] :: I.eraseIdx a).Perm I
  | x :: r, 0, _ => by simp
  | x :: r, a + 1, h => by
    simp only [List.getElem_cons_succ, List.eraseIdx_cons_succ]
    exact (List.Perm.swap _ _ _).trans (List.Perm.cons _ (getElem_eraseIdx_perm r a (by simpa using h)))
end

section
variable {β : Type} [Inhabited β] {key : β → Int}
variable (key)
def isH (L : List (β × Nat)) : Prop := ∀ i, 0 < i → i < L.length → kle key (g L ((i - 1) / 2)) (g L i)
variable {key}

theorem up_heap (i : Nat) : ∀ L : List (β × Nat), i < L.length →
    (∀ j, 0 < j → j < L.length → j ≠ i → kle key (g L ((j - 1) / 2)) (g L j)) → (∀ j, 0 < j → j < L.length → (j - 1) / 2 = i → 0 < i → kle key (g L ((i - 1) / 2)) (g L j)) → isH key (up (kah key) i L) := by
  induction i using Nat.strongRecOn with
  | ind i ih =>
    intro L hi h1 h2
    by_cases h : i = 0
    · subst h; rw [up_zero]; intro j h0 hj; exact h1 j h0 hj (by omega)
    · cases ha : kah key (g L i) (g L ((i - 1) / 2)) with
      | false =>
        rw [up_end _ (by omega) ha]
        intro j h0 hj
        by_cases e : j = i
        · subst e; exact kle_not ha
        · exact h1 j h0 hj e
      | true =>
        rw [up_go _ (by omega) ha]
        obtain ⟨p, hp⟩ : ∃ p, p = (i - 1) / 2 := ⟨_, rfl⟩
        rw [← hp] at ha ⊢
        have hpl : p < L.length := by omega
        have hsw := g_sw hi hpl
        refine ih p (by omega) _ (by rw [sw_length]; omega) ?_ ?_
        · intro j h0 hj hjp
          rw [sw_length] at hj
          rw [hsw, hsw, if_neg hjp]
          by_cases e : j = i
          · subst e
            rw [← hp, if_pos rfl, if_pos rfl]
            exact kle_of ha
          · rw [if_neg e]
            by_cases q1 : (j - 1) / 2 = p
            · rw [if_pos q1]
              have := h1 j h0 hj e
              rw [q1] at this
              exact kle_trans (kle_of ha) this
            · rw [if_neg q1]
              by_cases q2 : (j - 1) / 2 = i
              · rw [if_pos q2]
                have := h2 j h0 hj q2 (by omega)
                rw [← hp] at this
                exact this
              · rw [if_neg q2]; exact h1 j h0 hj e
        · intro j h0 hj hjp hp0
          rw [sw_length] at hj
          rw [hsw, hsw, if_neg (by omega), if_neg (by omega), if_neg (by omega)]
          have hpp := h1 p hp0 hpl (by omega)
          by_cases e : j = i
          · rw [if_pos e]; exact hpp
          · rw [if_neg e]
            have := h1 j h0 hj e
            rw [hjp] at this
            exact kle_trans hpp this

theorem lst_le (L : List (β × Nat)) (n i : Nat) : ∀ j, kle key (g L (lst (kah key) L n i j)) (g L i) ∧ ∀ c, c < j → 2 * i + 1 + c < n → kle key (g L (lst (kah key) L n i j)) (g L (2 * i + 1 + c))
  | 0 => ⟨kle_refl _, fun c hc => absurd hc (Nat.not_lt_zero c)⟩
  | j + 1 => by
    obtain ⟨h1, h2⟩ := lst_le L n i j
    by_cases hn : 2 * i + 1 + j < n
    · cases ha : kah key (g L (2 * i + 1 + j)) (g L (lst (kah key) L n i j)) with
      | true =>
        rw [lst_yes _ hn ha]
        refine ⟨kle_trans (kle_of ha) h1, fun c hc hcn => ?_⟩
        by_cases e : c = j
        · subst e; exact kle_refl _
        · exact kle_trans (kle_of ha) (h2 c (by omega) hcn)
      | false =>
        rw [lst_no _ ha]
        refine ⟨h1, fun c hc hcn => ?_⟩
        by_cases e : c = j
        · subst e; exact kle_not ha
        · exact h2 c (by omega) hcn
    · rw [lst_out _ (by omega)]
      exact ⟨h1, fun c hc hcn => h2 c (by omega) hcn⟩

theorem down_heap (n : Nat) : ∀ (m i : Nat) (L : List (β × Nat)), n - i ≤ m → n = L.length →
    (∀ j, 0 < j → j < n → (j - 1) / 2 ≠ i → kle key (g L ((j - 1) / 2)) (g L j)) → (∀ j, 0 < j → j < n → (j - 1) / 2 = i → 0 < i → kle key (g L ((i - 1) / 2)) (g L j)) → isH key (down (kah key) n i L) := by
  intro m
  induction m with
  | zero =>
    intro i L hm hn h1 h2
    have := lst_cases (kah key) L n i 2
    rw [down_end _ (by omega)]
    intro j h0 hj
    exact h1 j h0 (by omega) (by omega)
  | succ m ih =>
    intro i L hm hn h1 h2
    obtain ⟨hl1, hl2⟩ := lst_le (key := key) L n i 2
    have hcs := lst_cases (kah key) L n i 2
    by_cases h : lst (kah key) L n i 2 = i
    · rw [down_end _ h]
      intro j h0 hj
      by_cases e : (j - 1) / 2 = i
      · have := hl2 (j - (2 * i + 1)) (by omega) (by omega)
        rw [h, show 2 * i + 1 + (j - (2 * i + 1)) = j from by omega] at this
        rw [e]; exact this
      · exact h1 j h0 (by omega) e
    · rw [down_go _ h]
      obtain ⟨q, hq⟩ : ∃ q, q = lst (kah key) L n i 2 := ⟨_, rfl⟩
      rw [← hq] at hl1 hl2 hcs h ⊢
      have hql : q < L.length := by omega
      have hil : i < L.length := by omega
      have hsw := g_sw hil hql
      refine ih q _ (by omega) (by rw [sw_length]; exact hn) ?_ ?_
      · intro j h0 hj hjq
        rw [hsw, hsw, if_neg hjq]
        by_cases e : (j - 1) / 2 = i
        · rw [if_pos e]
          by_cases e2 : j = q
          · rw [if_pos e2]; exact hl1
          · rw [if_neg e2, if_neg (by omega)]
            have := hl2 (j - (2 * i + 1)) (by omega) (by omega)
            rw [show 2 * i + 1 + (j - (2 * i + 1)) = j from by omega] at this
            exact this
        · rw [if_neg e]
          have e2 : j ≠ q := by omega
          rw [if_neg e2]
          by_cases e3 : j = i
          · rw [if_pos e3]
            subst e3
            exact h2 q (by omega) (by omega) (by omega) h0
          · rw [if_neg e3]; exact h1 j h0 hj e
      · intro j h0 hj hjq hq0
        have hqi : (q - 1) / 2 = i := by omega
        rw [hqi, hsw, hsw, if_neg (by omega), if_pos rfl, if_neg (by omega), if_neg (by omega)]
        have := h1 j h0 hj (by omega)
        rw [hjq] at this
        exact this

theorem heap_min {L : List (β × Nat)} (h : isH key L) : ∀ i, i < L.length → kle key (g L 0) (g L i) := by
  intro i
  induction i using Nat.strongRecOn with
  | ind i ih =>
    intro hi
    by_cases h0 : i = 0
    · subst h0; exact kle_refl _
    · exact kle_trans (ih _ (by omega) (by omega)) (h i (by omega) hi)

theorem push_heap {L : List (β × Nat)} (h : isH key L) (x : β × Nat) : isH key (up (kah key) L.length (L ++ [x])) := by
  have hg : ∀ k, k < L.length → g (L ++ [x]) k = g L k := fun k hk => by
    rw [g_eq (by simp; omega), g_eq hk, List.getElem_append_left hk]
  refine up_heap _ _ (by simp) ?_ ?_
  · intro j h0 hj hne
    simp only [List.length_append, List.length_cons, List.length_nil] at hj
    rw [hg _ (by omega), hg _ (by omega)]
    exact h j h0 (by omega)
  · intro j h0 hj hp
    simp only [List.length_append, List.length_cons, List.length_nil] at hj
    omega
theorem pop_heap {L : List (β × Nat)} (h : isH key L) (h0 : 0 < L.length) : isH key (popL (kah key) L) := by
  have hg : ∀ k, 0 < k → k < L.length - 1 → g ((L.set 0 (g L (L.length - 1))).take (L.length - 1)) k = g L k := fun k hk hl => by
    rw [g_eq (by simp; omega), List.getElem_take, List.getElem_set, if_neg (by omega)]
    exact (g_eq (by omega)).symm
  refine down_heap _ _ 0 _ (Nat.le_refl _) (by simp) ?_ ?_
  · intro j hj hl hne
    rw [hg _ (by omega) (by omega), hg _ hj hl]
    exact h j hj (by omega)
  · intro j _ _ _ hc
    omega

/-! ### The least of a list, by its place -/
variable (key)
/-- What a search for the least one has found behind k things. -/
def lsA (l : List β) : Nat → Int
  | 0 => -1
  | k + 1 => if lsA l k < 0 ∨ key (l.getD k default) < key (l.getD (lsA l k).toNat default) then k else lsA l k
/-- a is the place of the least one, the first of several. -/
def FirstLeast (l : List β) (a : Nat) : Prop := a < l.length ∧ (∀ j, j < l.length → key (l.getD a default) ≤ key (l.getD j default)) ∧ ∀ j, j < a → key (l.getD a default) < key (l.getD j default)
variable {key}
theorem lsA_some (l : List β) : ∀ k, 0 < k → ∃ a : Nat, lsA key l k = a ∧ a < k ∧ (∀ j, j < k → key (l.getD a default) ≤ key (l.getD j default)) ∧ ∀ j, j < a → key (l.getD a default) < key (l.getD j default)
  | 0, h => absurd h (Nat.lt_irrefl 0)
  | k + 1, _ => by
    by_cases hk : k = 0
    · subst hk
      refine ⟨0, by simp [lsA], by omega, fun j hj => ?_, fun j hj => absurd hj (Nat.not_lt_zero j)⟩
      obtain rfl : j = 0 := by omega
      exact Int.le_refl _
    · obtain ⟨a, h1, h2, h3, h4⟩ := lsA_some l k (by omega)
      rw [lsA, h1]
      by_cases hlt : key (l.getD k default) < key (l.getD a default)
      · refine ⟨k, by rw [if_pos (.inr (by simpa using hlt))], by omega, fun j hj => ?_, fun j hj => ?_⟩
        · by_cases e : j = k
          · subst e; exact Int.le_refl _
          · have := h3 j (by omega); omega
        · have := h3 j hj; omega
      · refine ⟨a, by rw [if_neg (by simp only [Int.toNat_natCast]; omega)], by omega, fun j hj => ?_, h4⟩
        by_cases e : j = k
        · subst e; omega
        · exact h3 j (by omega)
theorem lsA_range (l : List β) (k : Nat) : -1 ≤ lsA key l k ∧ lsA key l k < k ∨ lsA key l k = -1 := by
  by_cases h : k = 0
  · subst h; exact .inr rfl
  · obtain ⟨a, h1, h2, _⟩ := lsA_some (key := key) l k (by omega); rw [h1]; left; omega
theorem lsA_first {l : List β} (h : 0 < l.length) : ∃ a : Nat, lsA key l l.length = a ∧ FirstLeast key l a := by
  obtain ⟨a, h1, h2, h3, h4⟩ := lsA_some (key := key) l l.length h
  exact ⟨a, h1, h2, h3, h4⟩
theorem firstLeast_one {l : List β} {a b : Nat} (ha : FirstLeast key l a) (hb : FirstLeast key l b) : a = b := by
  rcases Nat.lt_trichotomy a b with h | h | h
  · have h1 := hb.2.2 a h; have h2 := ha.2.1 b hb.1; omega
  · exact h
  · have h1 := ha.2.2 b h; have h2 := hb.2.1 a ha.1; omega

/-! ### A heap and the list of what lies in it, by age -/
variable (key)
structure St (L I : List (β × Nat)) (n : Nat) : Prop where
  perm : L.Perm I
  age : I.Pairwise fun a b => a.2 < b.2
  next : ∀ x ∈ I, x.2 < n
  heap : isH key L
variable {key}
theorem St.nil : St key ([] : List (β × Nat)) [] 0 := ⟨.nil, .nil, by simp, fun i _ h => absurd h (Nat.not_lt_zero i)⟩
theorem St.push {L I : List (β × Nat)} {n : Nat} (h : St key L I n) (v : β) : St key (up (kah key) L.length (L ++ [(v, n)])) (I ++ [(v, n)]) (n + 1) where
  perm := (up_perm _ _ _ (by simp)).trans (h.perm.append_right _)
  age := by
    rw [List.pairwise_append]
    refine ⟨h.age, by simp, fun a ha b hb => ?_⟩
    simp only [List.mem_singleton] at hb
    subst hb
    exact h.next a ha
  next := by
    intro x hx
    rcases List.mem_append.1 hx with hx | hx
    · have := h.next x hx; omega
    · simp only [List.mem_singleton] at hx; subst hx; exact Nat.lt_succ_self n
  heap := push_heap h.heap _

theorem St.first {L I : List (β × Nat)} {n : Nat} (h : St key L I n) (h0 : 0 < L.length) :
    ∃ a, FirstLeast key (I.map (·.1)) a ∧ I[a]? = some (g L 0) ∧ St key (popL (kah key) L) (I.eraseIdx a) n := by
  have hmem : g L 0 ∈ I := h.perm.mem_iff.1 (by rw [g_eq h0]; exact List.getElem_mem h0)
  obtain ⟨a, ha, hga⟩ := List.getElem_of_mem hmem
  have hsome : I[a]? = some (g L 0) := by rw [List.getElem?_eq_getElem ha, hga]
  have hmin : ∀ j (hj : j < I.length), kle key I[a] I[j] := by
    intro j hj
    have hx : I[j] ∈ L := h.perm.mem_iff.2 (List.getElem_mem hj)
    obtain ⟨i, hi, hgi⟩ := List.getElem_of_mem hx
    have := heap_min h.heap i hi
    rw [g_eq hi, hgi] at this
    rw [hga]; exact this
  have hget : ∀ j (hj : j < I.length), (I.map (·.1)).getD j default = I[j].1 := fun j hj => by simp [List.getD_eq_getElem?_getD, hj]
  refine ⟨a, ⟨by simpa using ha, ?_, ?_⟩, hsome, ⟨?_, ?_, ?_, pop_heap h.heap h0⟩⟩
  · intro j hj
    have hj' : j < I.length := by simpa using hj
    rw [hget a ha, hget j hj']
    have := hmin j hj'
    unfold kle at this; omega
  · intro j hj
    have hj' : j < I.length := by omega
    rw [hget a ha, hget j hj']
    have h1 := hmin j hj'
    have h2 := List.pairwise_iff_getElem.1 h.age j a hj' ha hj
    unfold kle at h1; omega
  · have h1 := (popL_perm (kah key) h0).trans h.perm
    have h2 : (I[a] :: I.eraseIdx a).Perm I := getElem_eraseIdx_perm I a ha
    rw [hga] at h2
    exact (List.perm_cons _).1 (h1.trans h2.symm)
  · exact h.age.sublist (List.eraseIdx_sublist I a)
  · intro x hx; exact h.next x ((List.eraseIdx_sublist I a).subset hx)

/-- Taking the least one again and again. -/
def sel (key : β → Int) : Nat → List β → List β
  | 0, _ => []
  | n + 1, l => l.getD (lsA key l l.length).toNat default :: sel key n (l.eraseIdx (lsA key l l.length).toNat)
theorem pops_sel : ∀ (m : Nat) (L I : List (β × Nat)) (n : Nat), St key L I n → L.length = m → pops (kah key) m L = sel key m (I.map (·.1))
  | 0, _, _, _, _, _ => rfl
  | m + 1, L, I, n, h, hl => by
    obtain ⟨a, hf, hs, hst⟩ := h.first (by omega)
    have hIl : (I.map (·.1)).length = m + 1 := by rw [List.length_map, ← h.perm.length_eq, hl]
    obtain ⟨b, hb, hfb⟩ := lsA_first (key := key) (l := I.map (·.1)) (by omega)
    obtain rfl := firstLeast_one hf hfb
    have hpl := popL_length (kah key) (L := L) (by omega)
    rw [pops, sel, hb, Int.toNat_natCast, pops_sel m _ _ n hst (by omega), map_eraseIdx]
    congr 1
    have : a < I.length := by have := hf.1; simpa using this
    rw [List.getElem?_eq_getElem this] at hs
    simp only [Option.some.injEq] at hs
    simp [List.getD_eq_getElem?_getD, this, hs]
theorem pushs_st (l : List β) : ∀ (L I : List (β × Nat)) (n : Nat), St key L I n → ∃ I', St key (pushs (kah key) L n l) I' (n + l.length) ∧ I'.map (·.1) = I.map (·.1) ++ l := by
  induction l with
  | nil => intro L I n h; exact ⟨I, h, by simp⟩
  | cons x r ih =>
    intro L I n h
    obtain ⟨I', h1, h2⟩ := ih _ _ _ (h.push x)
    refine ⟨I', ?_, ?_⟩
    · rw [show n + (x :: r).length = n + 1 + r.length from by simp; omega]; exact h1
    · rw [h2]; simp
end

end Go.Proofs.Ytbigglcolfbglaa
