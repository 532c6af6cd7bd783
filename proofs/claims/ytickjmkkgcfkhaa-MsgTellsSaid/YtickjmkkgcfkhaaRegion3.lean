/- A region whose order is open, where two operations that change the world may come up side by side: the orders as a tree that the prover names. No program is in sight. -/
import Derived.Test.YtickjmkkgcfkhaaRegion
set_option linter.unusedSimpArgs false
set_option linter.unusedVariables false
namespace Go.Proofs.Ytickjmkkgcfkhaa
open Go.RowKit

/-- What comes up: one that only looks; one that may change the world and is alone; two that may. -/
inductive OT where
  | nil
  | look (i : Nat) (r : OT)
  | one (i : Nat) (r : OT)
  | two (i : Nat) (r : OT) (j : Nat) (s : OT)
def OT.deep : OT → Nat
  | .nil => 0
  | .look _ r => r.deep + 1
  | .one _ r => r.deep + 1
  | .two _ r _ s => max r.deep s.deep + 1

section
variable {P : Program} {ops : Array Oper} {Q : Exit → Act → World → Prop} {S : World → Prop}

def wpOT (P : Program) (ops : Array Oper) (Q : Exit → Act → World → Prop) (S : World → Prop) : OT → Act → World → Prop
  | .nil, a, w => Q .normal a w
  | .look i r, a, w => ∃ o v, ops[i]? = some o ∧ YieldsIf P ops S o v a ∧ wpOT P ops Q S r (a.put o.dst v) w
  | .one i r, a, w => wpOp P ops Q i (fun a' w' => S w' ∧ wpOT P ops Q S r a' w') a w
  | .two i r j s, a, w => wpOp P ops Q i (fun a' w' => S w' ∧ wpOT P ops Q S r a' w') a w ∧ wpOp P ops Q j (fun a' w' => S w' ∧ wpOT P ops Q S s a' w') a w
def okOT (ops : Array Oper) : OT → Array Bool → Bool
  | .nil, listed => Region.ready .any ops listed == []
  | .look i r, listed => Region.free .any ops listed i && (Region.ready .any ops listed).contains i && okOT ops r (listed.setIfInBounds i true)
  | .one i r, listed => Region.ready .any ops listed == [i] && okOT ops r (listed.setIfInBounds i true)
  | .two i r j s, listed => Region.ready .any ops listed == [i, j] && (okOT ops r (listed.setIfInBounds i true) && okOT ops s (listed.setIfInBounds j true))

theorem wpAnyH_of_OT (hs : Region.noSelect ops = true) (hQ : ∀ (d : Option Tmp) (v : Value) c a w, Q (.panic c) (a.put d v) w → Q (.panic c) a w) :
    ∀ (t : OT) (fuel : Nat) (listed : Array Bool) (a : Act) (w : World), t.deep ≤ fuel → okOT ops t listed = true → S w →
      wpOT P ops Q S t a w → wpAnyH P .any ops Q S fuel listed a w := by
  intro t
  induction t with
  | nil =>
    intro fuel listed a w _ h _ hw
    exact wpAnyH_done (by simpa [okOT] using h) hw fuel
  | look i r ih =>
    intro fuel listed a w hf h hS hw
    obtain ⟨fuel, rfl⟩ : ∃ f, fuel = f + 1 := ⟨fuel - 1, by simp [OT.deep] at hf; omega⟩
    simp only [okOT, Bool.and_eq_true] at h
    obtain ⟨o, v, ho, hy, hw⟩ := hw
    exact wpAnyH_take ho hs h.1.1 h.1.2 (hQ o.dst v) hy hS (ih fuel _ _ w (by simpa [OT.deep] using hf) h.2 hS hw)
  | one i r ih =>
    intro fuel listed a w hf h hS hw
    obtain ⟨fuel, rfl⟩ : ∃ f, fuel = f + 1 := ⟨fuel - 1, by simp [OT.deep] at hf; omega⟩
    simp only [okOT, Bool.and_eq_true, beq_iff_eq] at h
    refine wpAnyH_all h.1 (by simp) fun j hj => ?_
    obtain rfl : j = i := by simpa using hj
    refine wpOp_mono (fun a' w' h' => ⟨h'.1, ih fuel _ a' w' (by simpa [OT.deep] using hf) h.2 h'.1 h'.2⟩) hw
  | two i r j s ihr ihs =>
    intro fuel listed a w hf h hS hw
    obtain ⟨fuel, rfl⟩ : ∃ f, fuel = f + 1 := ⟨fuel - 1, by simp [OT.deep] at hf; omega⟩
    simp only [okOT, Bool.and_eq_true, beq_iff_eq] at h
    simp only [OT.deep] at hf
    refine wpAnyH_all h.1 (by simp) fun k hk => ?_
    rcases (by simpa using hk : k = i ∨ k = j) with rfl | rfl
    · exact wpOp_mono (fun a' w' h' => ⟨h'.1, ihr fuel _ a' w' (by omega) h.2.1 h'.1 h'.2⟩) hw.1
    · exact wpOp_mono (fun a' w' h' => ⟨h'.1, ihs fuel _ a' w' (by omega) h.2.2 h'.1 h'.2⟩) hw.2

theorem wp_region_tree {id : Nat} {a : Act} {w : World} (t : OT) (S : World → Prop) (hm : P.follows .mixedOrders = true) (hs : Region.noSelect ops = true)
    (hl : t.deep ≤ ops.size) (ho : okOT ops t (Array.replicate ops.size false) = true) (hQ : ∀ (d : Option Tmp) (v : Value) c a w, Q (.panic c) (a.put d v) w → Q (.panic c) a w) (hS : S w.drew)
    (h : wpOT P ops Q S t a w.drew) : (Code.region id ops true).wp P Q a w :=
  wp_region_held hm (wpAnyH_of_OT hs hQ t ops.size _ a w.drew hl ho hS h)

theorem wpOT_nil {a : Act} {w : World} (h : Q .normal a w) : wpOT P ops Q S .nil a w := h
theorem wpOT_take {i : Nat} {o : Oper} {v : Value} {d : Tmp} {r : OT} {a : Act} {w : World} (ho : ops[i]? = some o) (hd : o.dst = some d) (hw : Region.wanted o (yielded ops a.tmps) = true)
    (hy : ∀ W, S W → (execOp a.eval o).run P W = .ok (.value v) W) (h : wpOT P ops Q S r { a with tmps := a.tmps.setIfInBounds d v } w) : wpOT P ops Q S (.look i r) a w :=
  ⟨o, v, ho, .inl ⟨hw, hy⟩, by rw [hd]; exact h⟩
theorem wpOT_do {i : Nat} {o : Oper} {r : OT} {a : Act} {w : World} (ho : ops[i]? = some o) (hw : Region.wanted o (yielded ops a.tmps) = true)
    (h : ∀ K : Act → World → Prop, (∀ a' w', S w' → wpOT P ops Q S r a' w' → K a' w') → o.wp P a w K Q) : wpOT P ops Q S (.one i r) a w := by
  show wpOp P ops Q i _ a w
  unfold wpOp
  simp only [ho, hw, if_true]
  exact .inl (h _ fun _ _ h1 h2 => ⟨h1, h2⟩)
theorem wpOT_two {i j : Nat} {r s : OT} {a : Act} {w : World} (h1 : wpOT P ops Q S (.one i r) a w) (h2 : wpOT P ops Q S (.one j s) a w) : wpOT P ops Q S (.two i r j s) a w := ⟨h1, h2⟩
end

attribute [irreducible] wpOT

end Go.Proofs.Ytickjmkkgcfkhaa
