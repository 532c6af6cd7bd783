/- Several texts in one: Region4, Region5. Each says in its own first comment what it proves. -/
import Derived.Test.YtickjmkkgcfkhaaRegion
/- A region whose order is open, where two operations that change the world may come up side by side: the orders as a tree that the prover names. No program is in sight. -/
set_option linter.unusedSimpArgs false
set_option linter.unusedVariables false
namespace Go.Proofs.Ytickjmkkgcfkhaa
open Go.RowKit

/-- What comes up: one that only looks; one that may change the world and is alone; two that may. -/
inductive OQ where
  | nil
  | look (i : Nat) (r : OQ)
  | one (i : Nat) (r : OQ)
  | two (i : Nat) (r : OQ) (j : Nat) (s : OQ)
  | three (i : Nat) (r : OQ) (j : Nat) (s : OQ) (k : Nat) (t : OQ)
def OQ.deep : OQ → Nat
  | .nil => 0
  | .look _ r => r.deep + 1
  | .one _ r => r.deep + 1
  | .two _ r _ s => max r.deep s.deep + 1
  | .three _ r _ s _ t => max r.deep (max s.deep t.deep) + 1

section
variable {P : Program} {ops : Array Oper} {Q : Exit → Act → World → Prop} {S : World → Prop}

def wpOQ (P : Program) (ops : Array Oper) (Q : Exit → Act → World → Prop) (S : World → Prop) : OQ → Act → World → Prop
  | .nil, a, w => Q .normal a w
  | .look i r, a, w => ∃ o v, ops[i]? = some o ∧ YieldsIf P ops S o v a ∧ wpOQ P ops Q S r (a.put o.dst v) w
  | .one i r, a, w => wpOp P ops Q i (fun a' w' => S w' ∧ wpOQ P ops Q S r a' w') a w
  | .three i r j s k t, a, w => wpOp P ops Q i (fun a' w' => S w' ∧ wpOQ P ops Q S r a' w') a w ∧ wpOp P ops Q j (fun a' w' => S w' ∧ wpOQ P ops Q S s a' w') a w ∧ wpOp P ops Q k (fun a' w' => S w' ∧ wpOQ P ops Q S t a' w') a w
  | .two i r j s, a, w => wpOp P ops Q i (fun a' w' => S w' ∧ wpOQ P ops Q S r a' w') a w ∧ wpOp P ops Q j (fun a' w' => S w' ∧ wpOQ P ops Q S s a' w') a w
def okOQ (ops : Array Oper) : OQ → Array Bool → Bool
  | .nil, listed => Region.ready .any ops listed == []
  | .look i r, listed => Region.free .any ops listed i && (Region.ready .any ops listed).contains i && okOQ ops r (listed.setIfInBounds i true)
  | .one i r, listed => Region.ready .any ops listed == [i] && okOQ ops r (listed.setIfInBounds i true)
  | .three i r j s k t, listed => Region.ready .any ops listed == [i, j, k] && (okOQ ops r (listed.setIfInBounds i true) && okOQ ops s (listed.setIfInBounds j true) && okOQ ops t (listed.setIfInBounds k true))
  | .two i r j s, listed => Region.ready .any ops listed == [i, j] && (okOQ ops r (listed.setIfInBounds i true) && okOQ ops s (listed.setIfInBounds j true))

theorem wpAnyH_of_OQ (hs : Region.noSelect ops = true) (hQ : ∀ (d : Option Tmp) (v : Value) c a w, Q (.panic c) (a.put d v) w → Q (.panic c) a w) :
    ∀ (t : OQ) (fuel : Nat) (listed : Array Bool) (a : Act) (w : World), t.deep ≤ fuel → okOQ ops t listed = true → S w →
      wpOQ P ops Q S t a w → wpAnyH P .any ops Q S fuel listed a w := by
  intro t
  induction t with
  | nil =>
    intro fuel listed a w _ h _ hw
    exact wpAnyH_done (by simpa [okOQ] using h) hw fuel
  | look i r ih =>
    intro fuel listed a w hf h hS hw
    obtain ⟨fuel, rfl⟩ : ∃ f, fuel = f + 1 := ⟨fuel - 1, by simp [OQ.deep] at hf; omega⟩
    simp only [okOQ, Bool.and_eq_true] at h
    obtain ⟨o, v, ho, hy, hw⟩ := hw
    exact wpAnyH_take ho hs h.1.1 h.1.2 (hQ o.dst v) hy hS (ih fuel _ _ w (by simpa [OQ.deep] using hf) h.2 hS hw)
  | one i r ih =>
    intro fuel listed a w hf h hS hw
    obtain ⟨fuel, rfl⟩ : ∃ f, fuel = f + 1 := ⟨fuel - 1, by simp [OQ.deep] at hf; omega⟩
    simp only [okOQ, Bool.and_eq_true, beq_iff_eq] at h
    refine wpAnyH_all h.1 (by simp) fun j hj => ?_
    obtain rfl : j = i := by simpa using hj
    refine wpOp_mono (fun a' w' h' => ⟨h'.1, ih fuel _ a' w' (by simpa [OQ.deep] using hf) h.2 h'.1 h'.2⟩) hw
  | two i r j s ihr ihs =>
    intro fuel listed a w hf h hS hw
    obtain ⟨fuel, rfl⟩ : ∃ f, fuel = f + 1 := ⟨fuel - 1, by simp [OQ.deep] at hf; omega⟩
    simp only [okOQ, Bool.and_eq_true, beq_iff_eq] at h
    simp only [OQ.deep] at hf
    refine wpAnyH_all h.1 (by simp) fun k hk => ?_
    rcases (by simpa using hk : k = i ∨ k = j) with rfl | rfl
    · exact wpOp_mono (fun a' w' h' => ⟨h'.1, ihr fuel _ a' w' (by omega) h.2.1 h'.1 h'.2⟩) hw.1
    · exact wpOp_mono (fun a' w' h' => ⟨h'.1, ihs fuel _ a' w' (by omega) h.2.2 h'.1 h'.2⟩) hw.2
  | three i r j s k t ihr ihs iht =>
    intro fuel listed a w hf h hS hw
    obtain ⟨fuel, rfl⟩ : ∃ f, fuel = f + 1 := ⟨fuel - 1, by simp [OQ.deep] at hf; omega⟩
    simp only [okOQ, Bool.and_eq_true, beq_iff_eq] at h
    simp only [OQ.deep] at hf
    refine wpAnyH_all h.1 (by simp) fun q hq => ?_
    rcases (by simpa using hq : q = i ∨ q = j ∨ q = k) with rfl | rfl | rfl
    · exact wpOp_mono (fun a' w' h' => ⟨h'.1, ihr fuel _ a' w' (by omega) h.2.1.1 h'.1 h'.2⟩) hw.1
    · exact wpOp_mono (fun a' w' h' => ⟨h'.1, ihs fuel _ a' w' (by omega) h.2.1.2 h'.1 h'.2⟩) hw.2.1
    · exact wpOp_mono (fun a' w' h' => ⟨h'.1, iht fuel _ a' w' (by omega) h.2.2 h'.1 h'.2⟩) hw.2.2

theorem wp_region_tree3 {id : Nat} {a : Act} {w : World} (t : OQ) (S : World → Prop) (hm : P.follows .mixedOrders = true) (hs : Region.noSelect ops = true)
    (hl : t.deep ≤ ops.size) (ho : okOQ ops t (Array.replicate ops.size false) = true) (hQ : ∀ (d : Option Tmp) (v : Value) c a w, Q (.panic c) (a.put d v) w → Q (.panic c) a w) (hS : S w.drew)
    (h : wpOQ P ops Q S t a w.drew) : (Code.region id ops true).wp P Q a w :=
  wp_region_held hm (wpAnyH_of_OQ hs hQ t ops.size _ a w.drew hl ho hS h)

theorem wpOQ_nil {a : Act} {w : World} (h : Q .normal a w) : wpOQ P ops Q S .nil a w := h
theorem wpOQ_take {i : Nat} {o : Oper} {v : Value} {d : Tmp} {r : OQ} {a : Act} {w : World} (ho : ops[i]? = some o) (hd : o.dst = some d) (hw : Region.wanted o (yielded ops a.tmps) = true)
    (hy : ∀ W, S W → (execOp a.eval o).run P W = .ok (.value v) W) (h : wpOQ P ops Q S r { a with tmps := a.tmps.setIfInBounds d v } w) : wpOQ P ops Q S (.look i r) a w :=
  ⟨o, v, ho, .inl ⟨hw, hy⟩, by rw [hd]; exact h⟩
theorem wpOQ_do {i : Nat} {o : Oper} {r : OQ} {a : Act} {w : World} (ho : ops[i]? = some o) (hw : Region.wanted o (yielded ops a.tmps) = true)
    (h : ∀ K : Act → World → Prop, (∀ a' w', S w' → wpOQ P ops Q S r a' w' → K a' w') → o.wp P a w K Q) : wpOQ P ops Q S (.one i r) a w := by
  show wpOp P ops Q i _ a w
  unfold wpOp
  simp only [ho, hw, if_true]
  exact .inl (h _ fun _ _ h1 h2 => ⟨h1, h2⟩)
theorem wpOQ_two {i j : Nat} {r s : OQ} {a : Act} {w : World} (h1 : wpOQ P ops Q S (.one i r) a w) (h2 : wpOQ P ops Q S (.one j s) a w) : wpOQ P ops Q S (.two i r j s) a w := ⟨h1, h2⟩
theorem wpOQ_three {i j k : Nat} {r s t : OQ} {a : Act} {w : World} (h1 : wpOQ P ops Q S (.one i r) a w) (h2 : wpOQ P ops Q S (.one j s) a w) (h3 : wpOQ P ops Q S (.one k t) a w) : wpOQ P ops Q S (.three i r j s k t) a w := ⟨h1, h2, h3⟩
end

attribute [irreducible] wpOQ

end Go.Proofs.Ytickjmkkgcfkhaa

/- A region whose order is open, walked along a tree of orders, where what an operation has made may be kept in what is known of the world ('S' may grow along the tree). No program is in sight. -/
set_option linter.unusedSimpArgs false
set_option linter.unusedVariables false
namespace Go.Proofs.Ytickjmkkgcfkhaa
open Go.RowKit

section
variable {P : Program} {ops : Array Oper} {Q : Exit → Act → World → Prop} {S : World → Prop}

theorem wpAnyH_weaken {S S' : World → Prop} {md : Region.Mode} (h : ∀ x, S' x → S x) : ∀ (fuel : Nat) (listed : Array Bool) (a : Act) (w : World), wpAnyH P md ops Q S' fuel listed a w → wpAnyH P md ops Q S fuel listed a w
  | 0, _, _, _, hw => hw
  | fuel + 1, _, _, _, hw => ⟨hw.1, fun i hi => wpOp_mono (fun a' w' h' => ⟨h _ h'.1, wpAnyH_weaken h fuel _ a' w' h'.2⟩) (hw.2 i hi)⟩

def wpOS (P : Program) (ops : Array Oper) (Q : Exit → Act → World → Prop) : OQ → (World → Prop) → Act → World → Prop
  | .nil, _, a, w => Q .normal a w
  | .look i r, S, a, w => ∃ o v, ops[i]? = some o ∧ YieldsIf P ops S o v a ∧ wpOS P ops Q r S (a.put o.dst v) w
  | .one i r, S, a, w => wpOp P ops Q i (fun a' w' => ∃ S' : World → Prop, (∀ x, S' x → S x) ∧ S' w' ∧ wpOS P ops Q r S' a' w') a w
  | .two i r j s, S, a, w => wpOp P ops Q i (fun a' w' => ∃ S' : World → Prop, (∀ x, S' x → S x) ∧ S' w' ∧ wpOS P ops Q r S' a' w') a w ∧ wpOp P ops Q j (fun a' w' => ∃ S' : World → Prop, (∀ x, S' x → S x) ∧ S' w' ∧ wpOS P ops Q s S' a' w') a w
  | .three i r j s k t, S, a, w => wpOp P ops Q i (fun a' w' => ∃ S' : World → Prop, (∀ x, S' x → S x) ∧ S' w' ∧ wpOS P ops Q r S' a' w') a w ∧ wpOp P ops Q j (fun a' w' => ∃ S' : World → Prop, (∀ x, S' x → S x) ∧ S' w' ∧ wpOS P ops Q s S' a' w') a w ∧ wpOp P ops Q k (fun a' w' => ∃ S' : World → Prop, (∀ x, S' x → S x) ∧ S' w' ∧ wpOS P ops Q t S' a' w') a w

theorem wpAnyH_of_OS (hs : Region.noSelect ops = true) (hQ : ∀ (d : Option Tmp) (v : Value) c a w, Q (.panic c) (a.put d v) w → Q (.panic c) a w) :
    ∀ (t : OQ) (S : World → Prop) (fuel : Nat) (listed : Array Bool) (a : Act) (w : World), t.deep ≤ fuel → okOQ ops t listed = true → S w →
      wpOS P ops Q t S a w → wpAnyH P .any ops Q S fuel listed a w := by
  have step : ∀ (r : OQ), (∀ (S : World → Prop) (fuel : Nat) (listed : Array Bool) (a : Act) (w : World), r.deep ≤ fuel → okOQ ops r listed = true → S w → wpOS P ops Q r S a w → wpAnyH P .any ops Q S fuel listed a w) →
      ∀ (S : World → Prop) (fuel : Nat) (listed : Array Bool), r.deep ≤ fuel → okOQ ops r listed = true → ∀ a' w', (∃ S' : World → Prop, (∀ x, S' x → S x) ∧ S' w' ∧ wpOS P ops Q r S' a' w') → S w' ∧ wpAnyH P .any ops Q S fuel listed a' w' := by
    intro r ih S fuel listed hf ho a' w' h
    obtain ⟨S', h1, h2, h3⟩ := h
    exact ⟨h1 _ h2, wpAnyH_weaken h1 _ _ _ _ (ih S' fuel listed a' w' hf ho h2 h3)⟩
  intro t
  induction t with
  | nil =>
    intro S fuel listed a w _ h _ hw
    exact wpAnyH_done (by simpa [okOQ] using h) hw fuel
  | look i r ih =>
    intro S fuel listed a w hf h hS hw
    obtain ⟨fuel, rfl⟩ : ∃ f, fuel = f + 1 := ⟨fuel - 1, by simp [OQ.deep] at hf; omega⟩
    simp only [okOQ, Bool.and_eq_true] at h
    obtain ⟨o, v, ho, hy, hw⟩ := hw
    exact wpAnyH_take ho hs h.1.1 h.1.2 (hQ o.dst v) hy hS (ih S fuel _ _ w (by simpa [OQ.deep] using hf) h.2 hS hw)
  | one i r ih =>
    intro S fuel listed a w hf h hS hw
    obtain ⟨fuel, rfl⟩ : ∃ f, fuel = f + 1 := ⟨fuel - 1, by simp [OQ.deep] at hf; omega⟩
    simp only [okOQ, Bool.and_eq_true, beq_iff_eq] at h
    refine wpAnyH_all h.1 (by simp) fun j hj => ?_
    obtain rfl : j = i := by simpa using hj
    exact wpOp_mono (step r ih S fuel _ (by simpa [OQ.deep] using hf) h.2) hw
  | two i r j s ihr ihs =>
    intro S fuel listed a w hf h hS hw
    obtain ⟨fuel, rfl⟩ : ∃ f, fuel = f + 1 := ⟨fuel - 1, by simp [OQ.deep] at hf; omega⟩
    simp only [okOQ, Bool.and_eq_true, beq_iff_eq] at h
    simp only [OQ.deep] at hf
    refine wpAnyH_all h.1 (by simp) fun k hk => ?_
    rcases (by simpa using hk : k = i ∨ k = j) with rfl | rfl
    · exact wpOp_mono (step r ihr S fuel _ (by omega) h.2.1) hw.1
    · exact wpOp_mono (step s ihs S fuel _ (by omega) h.2.2) hw.2
  | three i r j s k t ihr ihs iht =>
    intro S fuel listed a w hf h hS hw
    obtain ⟨fuel, rfl⟩ : ∃ f, fuel = f + 1 := ⟨fuel - 1, by simp [OQ.deep] at hf; omega⟩
    simp only [okOQ, Bool.and_eq_true, beq_iff_eq] at h
    simp only [OQ.deep] at hf
    refine wpAnyH_all h.1 (by simp) fun q hq => ?_
    rcases (by simpa using hq : q = i ∨ q = j ∨ q = k) with rfl | rfl | rfl
    · exact wpOp_mono (step r ihr S fuel _ (by omega) h.2.1.1) hw.1
    · exact wpOp_mono (step s ihs S fuel _ (by omega) h.2.1.2) hw.2.1
    · exact wpOp_mono (step t iht S fuel _ (by omega) h.2.2) hw.2.2

theorem wp_region_grow {id : Nat} {a : Act} {w : World} (t : OQ) (S : World → Prop) (hm : P.follows .mixedOrders = true) (hs : Region.noSelect ops = true)
    (hl : t.deep ≤ ops.size) (ho : okOQ ops t (Array.replicate ops.size false) = true) (hQ : ∀ (d : Option Tmp) (v : Value) c a w, Q (.panic c) (a.put d v) w → Q (.panic c) a w) (hS : S w.drew)
    (h : wpOS P ops Q t S a w.drew) : (Code.region id ops true).wp P Q a w :=
  wp_region_held hm (wpAnyH_of_OS hs hQ t S ops.size _ a w.drew hl ho hS h)

theorem wpOS_nil {a : Act} {w : World} (h : Q .normal a w) : wpOS P ops Q .nil S a w := h
theorem wpOS_take {i : Nat} {o : Oper} {v : Value} {d : Tmp} {r : OQ} {a : Act} {w : World} (ho : ops[i]? = some o) (hd : o.dst = some d) (hw : Region.wanted o (yielded ops a.tmps) = true)
    (hy : ∀ W, S W → (execOp a.eval o).run P W = .ok (.value v) W) (h : wpOS P ops Q r S { a with tmps := a.tmps.setIfInBounds d v } w) : wpOS P ops Q (.look i r) S a w :=
  ⟨o, v, ho, .inl ⟨hw, hy⟩, by rw [hd]; exact h⟩
theorem wpOS_skip {i : Nat} {o : Oper} {d : Tmp} {r : OQ} {a : Act} {w : World} (ho : ops[i]? = some o) (hd : o.dst = some d) (hw : Region.wanted o (yielded ops a.tmps) = false)
    (h : wpOS P ops Q r S { a with tmps := a.tmps.setIfInBounds d undef } w) : wpOS P ops Q (.look i r) S a w :=
  ⟨o, undef, ho, .inr ⟨hw, rfl⟩, by rw [hd]; exact h⟩
theorem wpOS_do {i : Nat} {o : Oper} {r : OQ} {a : Act} {w : World} (ho : ops[i]? = some o) (hw : Region.wanted o (yielded ops a.tmps) = true) (S' : World → Prop) (hSS : ∀ x, S' x → S x)
    (h : ∀ K : Act → World → Prop, (∀ a' w', S' w' → wpOS P ops Q r S' a' w' → K a' w') → o.wp P a w K Q) : wpOS P ops Q (.one i r) S a w := by
  show wpOp P ops Q i _ a w
  unfold wpOp
  simp only [ho, hw, if_true]
  exact .inl (h _ fun _ _ h1 h2 => ⟨S', hSS, h1, h2⟩)
theorem wpOS_undone {i : Nat} {o : Oper} {d : Tmp} {r : OQ} {a : Act} {w : World} (ho : ops[i]? = some o) (hd : o.dst = some d) (hw : Region.wanted o (yielded ops a.tmps) = false) (hS : S w)
    (h : wpOS P ops Q r S { tmps := a.tmps.setIfInBounds d undef, defers := a.defers } w) : wpOS P ops Q (.one i r) S a w := by
  show wpOp P ops Q i _ a w
  unfold wpOp
  simp only [ho, hw]
  exact ⟨S, fun _ h => h, hS, by rw [hd]; exact h⟩
theorem wpOS_two {i j : Nat} {r s : OQ} {a : Act} {w : World} (h1 : wpOS P ops Q (.one i r) S a w) (h2 : wpOS P ops Q (.one j s) S a w) : wpOS P ops Q (.two i r j s) S a w := ⟨h1, h2⟩
theorem wpOS_three {i j k : Nat} {r s t : OQ} {a : Act} {w : World} (h1 : wpOS P ops Q (.one i r) S a w) (h2 : wpOS P ops Q (.one j s) S a w) (h3 : wpOS P ops Q (.one k t) S a w) : wpOS P ops Q (.three i r j s k t) S a w := ⟨h1, h2, h3⟩
end

attribute [irreducible] wpOS

end Go.Proofs.Ytickjmkkgcfkhaa
