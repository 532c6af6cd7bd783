import Derived.WalkKit
import Derived.WalkSpells
import Derived.WalkLawsBesides
import Derived.OrdersHeld
/- A region whose order is open, walked in ONE order that the prover names: operations that only look (at what 'S' says of the world) may come up whenever they can; those that write, make or call wait for one another. No program is in sight. -/
set_option linter.unusedSimpArgs false
set_option linter.unusedVariables false
set_option maxRecDepth 100000
namespace Go.Proofs.YtickjmkkgcfkhaaGreat
open Go.RowKit

section
variable {P : Program} {ops : Array Oper} {Q : Exit → Act → World → Prop} {S : World → Prop}

/-- The operations in the order named: 'true': it only looks; 'false': it may change the world, and 'S' is to be shown anew behind it. -/
def wpOrd (P : Program) (ops : Array Oper) (Q : Exit → Act → World → Prop) (S : World → Prop) : List (Nat × Bool) → Act → World → Prop
  | [], a, w => Q .normal a w
  | (i, true) :: r, a, w => ∃ o v, ops[i]? = some o ∧ YieldsIf P ops S o v a ∧ wpOrd P ops Q S r (a.put o.dst v) w
  | (i, false) :: r, a, w => wpOp P ops Q i (fun a' w' => S w' ∧ wpOrd P ops Q S r a' w') a w

/-- The order is one that may be, and what only looks is apart from all that does not wait for it. -/
def ordOk (ops : Array Oper) : List (Nat × Bool) → Array Bool → Bool
  | [], listed => Region.ready .any ops listed == []
  | (i, true) :: r, listed => Region.free .any ops listed i && (Region.ready .any ops listed).contains i && ordOk ops r (listed.setIfInBounds i true)
  | (i, false) :: r, listed => Region.ready .any ops listed == [i] && ordOk ops r (listed.setIfInBounds i true)

theorem wpAnyH_of_ord (hs : Region.noSelect ops = true) (hQ : ∀ (d : Option Tmp) (v : Value) c a w, Q (.panic c) (a.put d v) w → Q (.panic c) a w) :
    ∀ (l : List (Nat × Bool)) (fuel : Nat) (listed : Array Bool) (a : Act) (w : World), l.length ≤ fuel → ordOk ops l listed = true → S w →
      wpOrd P ops Q S l a w → wpAnyH P .any ops Q S fuel listed a w := by
  intro l
  induction l with
  | nil =>
    intro fuel listed a w _ h _ hw
    exact wpAnyH_done (by simpa [ordOk] using h) hw fuel
  | cons x r ih =>
    intro fuel listed a w hf h hS hw
    obtain ⟨i, b⟩ := x
    obtain ⟨fuel, rfl⟩ : ∃ f, fuel = f + 1 := ⟨fuel - 1, by simp at hf; omega⟩
    cases b with
    | true =>
      simp only [ordOk, Bool.and_eq_true] at h
      obtain ⟨o, v, ho, hy, hw⟩ := hw
      exact wpAnyH_take ho hs h.1.1 h.1.2 (hQ o.dst v) hy hS (ih fuel _ _ w (by simpa using hf) h.2 hS hw)
    | false =>
      simp only [ordOk, Bool.and_eq_true, beq_iff_eq] at h
      refine wpAnyH_all h.1 (by simp) fun j hj => ?_
      obtain rfl : j = i := by simpa using hj
      refine wpOp_mono (fun a' w' h' => ⟨h'.1, ih fuel _ a' w' (by simpa using hf) h.2 h'.1 h'.2⟩) hw

theorem wp_region_ord {id : Nat} {a : Act} {w : World} (ord : List (Nat × Bool)) (S : World → Prop) (hm : P.follows .mixedOrders = true) (hs : Region.noSelect ops = true)
    (hl : ord.length ≤ ops.size) (ho : ordOk ops ord (Array.replicate ops.size false) = true) (hQ : ∀ (d : Option Tmp) (v : Value) c a w, Q (.panic c) (a.put d v) w → Q (.panic c) a w) (hS : S w.drew)
    (h : wpOrd P ops Q S ord a w.drew) : (Code.region id ops true).wp P Q a w :=
  wp_region_held hm (wpAnyH_of_ord hs hQ ord ops.size _ a w.drew hl ho hS h)

theorem wpOrd_nil {a : Act} {w : World} (h : Q .normal a w) : wpOrd P ops Q S [] a w := h
theorem wpOrd_look {i : Nat} {o : Oper} {v : Value} {r : List (Nat × Bool)} {a : Act} {w : World} (ho : ops[i]? = some o) (hw : Region.wanted o (yielded ops a.tmps) = true)
    (hy : ∀ W, S W → (execOp a.eval o).run P W = .ok (.value v) W) (h : wpOrd P ops Q S r (a.put o.dst v) w) : wpOrd P ops Q S ((i, true) :: r) a w :=
  ⟨o, v, ho, .inl ⟨hw, hy⟩, h⟩
/-- The same where the slot is named: its number is found by unfolding, not by simp. -/
theorem wpOrd_take {i : Nat} {o : Oper} {v : Value} {d : Tmp} {r : List (Nat × Bool)} {a : Act} {w : World} (ho : ops[i]? = some o) (hd : o.dst = some d) (hw : Region.wanted o (yielded ops a.tmps) = true)
    (hy : ∀ W, S W → (execOp a.eval o).run P W = .ok (.value v) W) (h : wpOrd P ops Q S r { a with tmps := a.tmps.setIfInBounds d v } w) : wpOrd P ops Q S ((i, true) :: r) a w :=
  wpOrd_look ho hw hy (by rw [hd]; exact h)
theorem wpOrd_idle {i : Nat} {o : Oper} {r : List (Nat × Bool)} {a : Act} {w : World} (ho : ops[i]? = some o) (hw : Region.wanted o (yielded ops a.tmps) = false)
    (h : wpOrd P ops Q S r (a.put o.dst undef) w) : wpOrd P ops Q S ((i, true) :: r) a w :=
  ⟨o, undef, ho, .inr ⟨hw, rfl⟩, h⟩
theorem wpOrd_skip {i : Nat} {o : Oper} {d : Tmp} {r : List (Nat × Bool)} {a : Act} {w : World} (ho : ops[i]? = some o) (hd : o.dst = some d) (hw : Region.wanted o (yielded ops a.tmps) = false)
    (h : wpOrd P ops Q S r { a with tmps := a.tmps.setIfInBounds d undef } w) : wpOrd P ops Q S ((i, true) :: r) a w :=
  wpOrd_idle ho hw (by rw [hd]; exact h)
theorem wpOrd_do {i : Nat} {o : Oper} {r : List (Nat × Bool)} {a : Act} {w : World} (ho : ops[i]? = some o) (hw : Region.wanted o (yielded ops a.tmps) = true)
    (h : ∀ K : Act → World → Prop, (∀ a' w', S w' → wpOrd P ops Q S r a' w' → K a' w') → o.wp P a w K Q) : wpOrd P ops Q S ((i, false) :: r) a w := by
  show wpOp P ops Q i _ a w
  unfold wpOp
  simp only [ho, hw, if_true]
  exact .inl (h _ fun _ _ h1 h2 => ⟨h1, h2⟩)
theorem wpOrd_undone {i : Nat} {o : Oper} {r : List (Nat × Bool)} {a : Act} {w : World} (ho : ops[i]? = some o) (hw : Region.wanted o (yielded ops a.tmps) = false)
    (hS : S w) (h : wpOrd P ops Q S r (a.put o.dst undef) w) : wpOrd P ops Q S ((i, false) :: r) a w := by
  show wpOp P ops Q i _ a w
  unfold wpOp
  simp only [ho, hw]
  exact ⟨hS, h⟩
end

attribute [irreducible] wpOrd

end Go.Proofs.YtickjmkkgcfkhaaGreat

/- A region whose order is open, walked in ONE order that the prover names, where some operations (the breakers: the stores into what is looked at) end what 'S' says of the world: an operation that looks by S must be waited for by each breaker. No program is in sight. -/
set_option linter.unusedSimpArgs false
set_option linter.unusedVariables false
set_option maxRecDepth 100000
namespace Go.Proofs.YtickjmkkgcfkhaaGreat
open Go.RowKit

section
variable {P : Program} {ops : Array Oper} {Q : Exit → Act → World → Prop} {md : Region.Mode} {S : World → Prop} {L : List Nat}

/-- No breaker has come up. -/
def whole (L : List Nat) (listed : Array Bool) : Bool := L.all fun b => listed.getD b true == false
/-- As long as no breaker has come up S holds. -/
def Still (S : World → Prop) (L : List Nat) (listed : Array Bool) (w : World) : Prop := whole L listed = true → S w

/-- Whatever order is picked from here on; S holds till a breaker has come up. -/
def wpAnyB (P : Program) (md : Region.Mode) (ops : Array Oper) (Q : Exit → Act → World → Prop) (S : World → Prop) (L : List Nat) : Nat → Array Bool → Act → World → Prop
  | 0, listed, a, w => Region.ready md ops listed = [] ∧ Q .normal a w
  | fuel + 1, listed, a, w =>
    (Region.ready md ops listed = [] → Q .normal a w) ∧
    ∀ i ∈ Region.ready md ops listed, wpOp P ops Q i (fun a' w' => Still S L (listed.setIfInBounds i true) w' ∧ wpAnyB P md ops Q S L fuel (listed.setIfInBounds i true) a' w') a w

theorem wpAny_of_B : ∀ (fuel : Nat) (listed : Array Bool) (a : Act) (w : World), wpAnyB P md ops Q S L fuel listed a w → wpAny P md ops Q fuel listed a w
  | 0, _, _, _, h => h
  | fuel + 1, _, _, _, h => ⟨h.1, fun i hi => wpOp_mono (fun a' w' h' => wpAny_of_B fuel _ a' w' h'.2) (h.2 i hi)⟩

/-- A mark set at no breaker leaves 'whole' as it is. -/
theorem whole_set {listed : Array Bool} {i : Nat} (h : L.contains i = false) : whole L (listed.setIfInBounds i true) = whole L listed := by
  unfold whole
  rw [Bool.eq_iff_iff, List.all_eq_true, List.all_eq_true]
  have e : ∀ b ∈ L, (listed.setIfInBounds i true).getD b true = listed.getD b true := by
    intro b hb
    have hne : i ≠ b := fun he => by subst he; simp at h; exact h hb
    exact getD_set_ne true hne
  constructor
  · intro h1 b hb; rw [← e b hb]; exact h1 b hb
  · intro h1 b hb; rw [e b hb]; exact h1 b hb

/-- An operation that looks may be taken first: by S, if each breaker that is still to come waits for it; in whatever world, always. -/
theorem wpAnyB_first {T : World → Prop} {i : Nat} {oi : Oper} {v : Value} (hi : ops[i]? = some oi) (hsel : ∀ (j : Nat) (o : Oper) cs b, ops[j]? = some o → o.op ≠ .select cs b)
    (hQ : ∀ c a w, Q (.panic c) (a.put oi.dst v) w → Q (.panic c) a w) (hiL : L.contains i = false) :
    ∀ (fuel : Nat) (listed : Array Bool) (a : Act) (w : World),
      (∀ W, Still S L listed W → T W) →
      (∀ j oj, ops[j]? = some oj → j ≠ i → listed.getD j true = false → (∀ e ∈ oj.after, Region.binds md e = true → e.on ≠ i) →
        oi.apart ops oj = true ∧ (L.contains j = true → ∀ W, T W)) →
      i ∈ Region.ready md ops listed → YieldsIf P ops T oi v a → Still S L listed w →
      wpAnyB P md ops Q S L fuel (listed.setIfInBounds i true) (a.put oi.dst v) w → wpAnyB P md ops Q S L (fuel + 1) listed a w := by
  intro fuel
  induction fuel with
  | zero =>
    intro listed a w hT _ hr hy hS H
    refine ⟨fun h => (by rw [h] at hr; cases hr), fun j hj => ?_⟩
    by_cases hji : j = i
    · subst hji; exact hy.wpOp hi (hT w hS) ⟨by unfold Still; rw [whole_set hiL]; exact hS, H⟩
    · have := ready_mono hj hji
      rw [H.1] at this
      cases this
  | succ fuel ih =>
    intro listed a w hT hfree hr hy hS H
    refine ⟨fun h => (by rw [h] at hr; cases hr), fun j hj => ?_⟩
    by_cases hji : j = i
    · subst hji; exact hy.wpOp hi (hT w hS) ⟨by unfold Still; rw [whole_set hiL]; exact hS, H⟩
    · have h1 := H.2 j (ready_mono hj hji)
      obtain ⟨hjun, oj, hoj, hall⟩ := mem_ready.1 hj
      have hnot : ∀ e ∈ oj.after, Region.binds md e = true → e.on ≠ i := fun e he hb heq => by
        have h1 := hall e he hb
        have h0 := (mem_ready.1 hr).1
        rw [heq] at h1
        rcases Nat.lt_or_ge i listed.size with h' | h'
        · simp [h'] at h0 h1; rw [h0] at h1; cases h1
        · simp [Array.getElem?_eq_none h'] at h1
      obtain ⟨hap, hbr⟩ := hfree j oj hoj hji hjun hnot
      have h2 := wpOp_putIf hoj hap (fun cs b => hsel i oi cs b hi) (fun cs b => hsel j oj cs b hoj) hQ hy h1
      have hfree' : ∀ k ok, ops[k]? = some ok → k ≠ i → (listed.setIfInBounds j true).getD k true = false →
          (∀ e ∈ ok.after, Region.binds md e = true → e.on ≠ i) → oi.apart ops ok = true ∧ (L.contains k = true → ∀ W, T W) := fun k ok hk hki hun hno => by
        refine hfree k ok hk hki ?_ hno
        by_cases hjk : j = k
        · subst hjk; exact hjun
        · rw [getD_set_ne true hjk] at hun; exact hun
      have hcomm : (listed.setIfInBounds i true).setIfInBounds j true = (listed.setIfInBounds j true).setIfInBounds i true := Array.setIfInBounds_comm _ _ (Ne.symm hji)
      have hT' : ∀ W, Still S L (listed.setIfInBounds j true) W → T W := by
        intro W hW
        by_cases hjL : L.contains j = true
        · exact hbr hjL W
        · refine hT W ?_
          unfold Still at hW ⊢
          rw [whole_set (by simpa using hjL)] at hW
          exact hW
      refine wpOp_mono (fun a' w' h3 => ?_) h2
      obtain ⟨h4, h5, h6⟩ := h3
      rw [hcomm] at h5 h6
      have h7 : Still S L (listed.setIfInBounds j true) w' := by
        unfold Still at h5 ⊢
        rw [whole_set hiL] at h5
        exact h5
      exact ⟨h7, ih (listed.setIfInBounds j true) a' w' hT' hfree' (ready_mono hr (Ne.symm hji)) h4 h7 h6⟩

/-- Each breaker waits for i. -/
def awaited (ops : Array Oper) (L : List Nat) (i : Nat) : Bool := L.all fun b => match ops[b]? with | some o => o.after.any fun e => Region.binds .any e && e.on == i | none => true

/-- The operations in the order named: 0: it looks, by S; 1: it looks, in whatever world; 2: it may change the world, S is to be shown anew; 3: behind it nothing is asked of S any more. -/
def wpOrdB (P : Program) (ops : Array Oper) (Q : Exit → Act → World → Prop) (S : World → Prop) : List (Nat × Nat) → Act → World → Prop
  | [], a, w => Q .normal a w
  | (i, 0) :: r, a, w => ∃ o v, ops[i]? = some o ∧ YieldsIf P ops S o v a ∧ wpOrdB P ops Q S r (a.put o.dst v) w
  | (i, 1) :: r, a, w => ∃ o v, ops[i]? = some o ∧ YieldsIf P ops (fun _ => True) o v a ∧ wpOrdB P ops Q S r (a.put o.dst v) w
  | (i, 2) :: r, a, w => wpOp P ops Q i (fun a' w' => S w' ∧ wpOrdB P ops Q S r a' w') a w
  | (i, _) :: r, a, w => wpOp P ops Q i (fun a' w' => wpOrdB P ops Q S r a' w') a w

def ordOkB (ops : Array Oper) (L : List Nat) : List (Nat × Nat) → Array Bool → Bool
  | [], listed => Region.ready .any ops listed == []
  | (i, 0) :: r, listed => Region.free .any ops listed i && (Region.ready .any ops listed).contains i && !L.contains i && whole L listed && awaited ops L i && ordOkB ops L r (listed.setIfInBounds i true)
  | (i, 1) :: r, listed => Region.free .any ops listed i && (Region.ready .any ops listed).contains i && !L.contains i && ordOkB ops L r (listed.setIfInBounds i true)
  | (i, 2) :: r, listed => Region.ready .any ops listed == [i] && ordOkB ops L r (listed.setIfInBounds i true)
  | (i, _) :: r, listed => Region.ready .any ops listed == [i] && (L.contains i || !whole L listed) && ordOkB ops L r (listed.setIfInBounds i true)

theorem not_whole {listed : Array Bool} {i : Nat} (h : (L.contains i || !whole L listed) = true) : whole L (listed.setIfInBounds i true) = false := by
  have key : ∀ b ∈ L, (listed.setIfInBounds i true).getD b true = true → whole L (listed.setIfInBounds i true) = false := by
    intro b hb ht
    unfold whole
    rw [Bool.eq_false_iff]
    intro hall
    have := List.all_eq_true.1 hall b hb
    rw [ht] at this
    simp at this
  rcases Bool.or_eq_true _ _ ▸ h with h | h
  · refine key i (by simpa using h) ?_
    rcases Nat.lt_or_ge i listed.size with h' | h'
    · simp [h']
    · simp [Array.getElem?_eq_none h']
  · have h0 : ¬ (whole L listed = true) := by simpa using h
    unfold whole at h0
    rw [List.all_eq_true] at h0
    obtain ⟨b, hb⟩ := Classical.not_forall.1 h0
    obtain ⟨hb1, hb2⟩ := Classical.not_imp.1 hb
    refine key b hb1 ?_
    by_cases hib : i = b
    · subst hib
      rcases Nat.lt_or_ge i listed.size with h' | h'
      · simp [h']
      · simp [Array.getElem?_eq_none h']
    · rw [getD_set_ne true hib]
      simpa using hb2

theorem wpAnyB_of_ord (hs : Region.noSelect ops = true) (hQ : ∀ (d : Option Tmp) (v : Value) c a w, Q (.panic c) (a.put d v) w → Q (.panic c) a w) :
    ∀ (l : List (Nat × Nat)) (fuel : Nat) (listed : Array Bool) (a : Act) (w : World), l.length ≤ fuel → ordOkB ops L l listed = true → Still S L listed w →
      wpOrdB P ops Q S l a w → wpAnyB P .any ops Q S L fuel listed a w := by
  intro l
  induction l with
  | nil =>
    intro fuel listed a w _ h _ hw
    have hr : Region.ready .any ops listed = [] := by simpa [ordOkB] using h
    cases fuel with
    | zero => exact ⟨hr, hw⟩
    | succ fuel => exact ⟨fun _ => hw, by rw [hr]; simp⟩
  | cons x r ih =>
    intro fuel listed a w hf h hS hw
    obtain ⟨i, k⟩ := x
    obtain ⟨fuel, rfl⟩ : ∃ f, fuel = f + 1 := ⟨fuel - 1, by simp at hf; omega⟩
    have hlen : r.length ≤ fuel := by simpa using hf
    match k with
    | 0 =>
      simp only [ordOkB, Bool.and_eq_true, Bool.not_eq_true'] at h
      obtain ⟨⟨⟨⟨⟨h1, h2⟩, h3⟩, h4⟩, h5⟩, h6⟩ := h
      obtain ⟨o, v, ho, hy, hw⟩ := hw
      have hS' : S w := hS h4
      refine wpAnyB_first (T := S) ho (Region.noSelect_spec hs) (hQ o.dst v) h3 fuel listed a w (fun W hW => hW h4) (fun j oj hj hji hun hno => ⟨Region.free_spec ho h1 j oj hj hji hun hno, fun hjL => ?_⟩) (by simpa using h2) hy hS
        (ih fuel _ _ w hlen h6 (fun _ => hS') hw)
      exfalso
      have hb := List.all_eq_true.1 h5 j (by simpa using hjL)
      simp only [hj, Array.any_eq_true, Bool.and_eq_true, beq_iff_eq] at hb
      obtain ⟨n, hn, he1, he2⟩ := hb
      exact hno _ (Array.getElem_mem hn) he1 he2
    | 1 =>
      simp only [ordOkB, Bool.and_eq_true, Bool.not_eq_true'] at h
      obtain ⟨⟨⟨h1, h2⟩, h3⟩, h6⟩ := h
      obtain ⟨o, v, ho, hy, hw⟩ := hw
      exact wpAnyB_first (T := fun _ => True) ho (Region.noSelect_spec hs) (hQ o.dst v) h3 fuel listed a w (fun _ _ => trivial) (fun j oj hj hji hun hno => ⟨Region.free_spec ho h1 j oj hj hji hun hno, fun _ _ => trivial⟩) (by simpa using h2) hy hS
        (ih fuel _ _ w hlen h6 (by unfold Still at hS ⊢; rw [whole_set h3]; exact hS) hw)
    | 2 =>
      simp only [ordOkB, Bool.and_eq_true, beq_iff_eq] at h
      refine ⟨(fun h0 => by rw [h.1] at h0; cases h0), fun j hj => ?_⟩
      rw [h.1] at hj
      obtain rfl : j = i := by simpa using hj
      exact wpOp_mono (fun a' w' h' => ⟨fun _ => h'.1, ih fuel _ a' w' hlen h.2 (fun _ => h'.1) h'.2⟩) hw
    | k + 3 =>
      simp only [ordOkB, Bool.and_eq_true, beq_iff_eq] at h
      obtain ⟨⟨h1, h2⟩, h3⟩ := h
      have hnw := not_whole h2
      refine ⟨(fun h0 => by rw [h1] at h0; cases h0), fun j hj => ?_⟩
      rw [h1] at hj
      obtain rfl : j = i := by simpa using hj
      have hst : ∀ w', Still S L (listed.setIfInBounds j true) w' := fun w' hw' => by rw [hnw] at hw'; cases hw'
      exact wpOp_mono (fun a' w' h' => ⟨hst w', ih fuel _ a' w' hlen h3 (hst w') h'⟩) hw

theorem wp_region_ordB {id : Nat} {a : Act} {w : World} (ord : List (Nat × Nat)) (L : List Nat) (S : World → Prop) (hm : P.follows .mixedOrders = true) (hs : Region.noSelect ops = true)
    (hl : ord.length ≤ ops.size) (ho : ordOkB ops L ord (Array.replicate ops.size false) = true) (hQ : ∀ (d : Option Tmp) (v : Value) c a w, Q (.panic c) (a.put d v) w → Q (.panic c) a w) (hS : S w.drew)
    (h : wpOrdB P ops Q S ord a w.drew) : (Code.region id ops true).wp P Q a w :=
  wp_region_any hm (wpAny_of_B _ _ _ _ (wpAnyB_of_ord (L := L) hs hQ ord ops.size _ a w.drew hl ho (fun _ => hS) h))

theorem wpOrdB_nil {a : Act} {w : World} (h : Q .normal a w) : wpOrdB P ops Q S [] a w := h
theorem wpOrdB_look {i : Nat} {o : Oper} {v : Value} {r : List (Nat × Nat)} {a : Act} {w : World} (ho : ops[i]? = some o) (hw : Region.wanted o (yielded ops a.tmps) = true)
    (hy : ∀ W, S W → (execOp a.eval o).run P W = .ok (.value v) W) (h : wpOrdB P ops Q S r (a.put o.dst v) w) : wpOrdB P ops Q S ((i, 0) :: r) a w :=
  ⟨o, v, ho, .inl ⟨hw, hy⟩, h⟩
theorem wpOrdB_pure {i : Nat} {o : Oper} {v : Value} {r : List (Nat × Nat)} {a : Act} {w : World} (ho : ops[i]? = some o) (hw : Region.wanted o (yielded ops a.tmps) = true)
    (hy : ∀ W : World, (execOp a.eval o).run P W = .ok (.value v) W) (h : wpOrdB P ops Q S r (a.put o.dst v) w) : wpOrdB P ops Q S ((i, 1) :: r) a w :=
  ⟨o, v, ho, .inl ⟨hw, fun W _ => hy W⟩, h⟩
/-- The same where the slot is named: its number is found by unfolding, not by simp. -/
theorem wpOrdB_take {i : Nat} {o : Oper} {v : Value} {d : Tmp} {r : List (Nat × Nat)} {a : Act} {w : World} (ho : ops[i]? = some o) (hd : o.dst = some d) (hw : Region.wanted o (yielded ops a.tmps) = true)
    (hy : ∀ W, S W → (execOp a.eval o).run P W = .ok (.value v) W) (h : wpOrdB P ops Q S r { a with tmps := a.tmps.setIfInBounds d v } w) : wpOrdB P ops Q S ((i, 0) :: r) a w :=
  wpOrdB_look ho hw hy (by rw [hd]; exact h)
theorem wpOrdB_takePure {i : Nat} {o : Oper} {v : Value} {d : Tmp} {r : List (Nat × Nat)} {a : Act} {w : World} (ho : ops[i]? = some o) (hd : o.dst = some d) (hw : Region.wanted o (yielded ops a.tmps) = true)
    (hy : ∀ W : World, (execOp a.eval o).run P W = .ok (.value v) W) (h : wpOrdB P ops Q S r { a with tmps := a.tmps.setIfInBounds d v } w) : wpOrdB P ops Q S ((i, 1) :: r) a w :=
  wpOrdB_pure ho hw hy (by rw [hd]; exact h)
theorem wpOrdB_do {i : Nat} {o : Oper} {r : List (Nat × Nat)} {a : Act} {w : World} (ho : ops[i]? = some o) (hw : Region.wanted o (yielded ops a.tmps) = true)
    (h : ∀ K : Act → World → Prop, (∀ a' w', S w' → wpOrdB P ops Q S r a' w' → K a' w') → o.wp P a w K Q) : wpOrdB P ops Q S ((i, 2) :: r) a w := by
  show wpOp P ops Q i _ a w
  unfold wpOp
  simp only [ho, hw, if_true]
  exact .inl (h _ fun _ _ h1 h2 => ⟨h1, h2⟩)
theorem wpOrdB_last {i : Nat} {o : Oper} {r : List (Nat × Nat)} {a : Act} {w : World} (ho : ops[i]? = some o) (hw : Region.wanted o (yielded ops a.tmps) = true)
    (h : ∀ K : Act → World → Prop, (∀ a' w', wpOrdB P ops Q S r a' w' → K a' w') → o.wp P a w K Q) : wpOrdB P ops Q S ((i, 3) :: r) a w := by
  show wpOp P ops Q i _ a w
  unfold wpOp
  simp only [ho, hw, if_true]
  exact .inl (h _ fun _ _ h1 => h1)

end

attribute [irreducible] wpOrdB

end Go.Proofs.YtickjmkkgcfkhaaGreat

/- A region whose order is open, where two operations that change the world may come up side by side: the orders as a tree that the prover names. No program is in sight. -/
set_option linter.unusedSimpArgs false
set_option linter.unusedVariables false
set_option maxRecDepth 100000
namespace Go.Proofs.YtickjmkkgcfkhaaGreat
open Go.RowKit

/-- What comes up: one that only looks; one that may change the world and is alone; two that may. -/
inductive OT where
  | nil
  | look (i : Nat) (r : OT)
  | one (i : Nat) (r : OT)
  | two (i : Nat) (r : OT) (j : Nat) (s : OT)
def OT.deep : OT → Nat
  | .nil => 0
  | .look _ r => r.deep + 1
  | .one _ r => r.deep + 1
  | .two _ r _ s => max r.deep s.deep + 1

section
variable {P : Program} {ops : Array Oper} {Q : Exit → Act → World → Prop} {S : World → Prop}

def wpOT (P : Program) (ops : Array Oper) (Q : Exit → Act → World → Prop) (S : World → Prop) : OT → Act → World → Prop
  | .nil, a, w => Q .normal a w
  | .look i r, a, w => ∃ o v, ops[i]? = some o ∧ YieldsIf P ops S o v a ∧ wpOT P ops Q S r (a.put o.dst v) w
  | .one i r, a, w => wpOp P ops Q i (fun a' w' => S w' ∧ wpOT P ops Q S r a' w') a w
  | .two i r j s, a, w => wpOp P ops Q i (fun a' w' => S w' ∧ wpOT P ops Q S r a' w') a w ∧ wpOp P ops Q j (fun a' w' => S w' ∧ wpOT P ops Q S s a' w') a w
def okOT (ops : Array Oper) : OT → Array Bool → Bool
  | .nil, listed => Region.ready .any ops listed == []
  | .look i r, listed => Region.free .any ops listed i && (Region.ready .any ops listed).contains i && okOT ops r (listed.setIfInBounds i true)
  | .one i r, listed => Region.ready .any ops listed == [i] && okOT ops r (listed.setIfInBounds i true)
  | .two i r j s, listed => Region.ready .any ops listed == [i, j] && (okOT ops r (listed.setIfInBounds i true) && okOT ops s (listed.setIfInBounds j true))

theorem wpAnyH_of_OT (hs : Region.noSelect ops = true) (hQ : ∀ (d : Option Tmp) (v : Value) c a w, Q (.panic c) (a.put d v) w → Q (.panic c) a w) :
    ∀ (t : OT) (fuel : Nat) (listed : Array Bool) (a : Act) (w : World), t.deep ≤ fuel → okOT ops t listed = true → S w →
      wpOT P ops Q S t a w → wpAnyH P .any ops Q S fuel listed a w := by
  intro t
  induction t with
  | nil =>
    intro fuel listed a w _ h _ hw
    exact wpAnyH_done (by simpa [okOT] using h) hw fuel
  | look i r ih =>
    intro fuel listed a w hf h hS hw
    obtain ⟨fuel, rfl⟩ : ∃ f, fuel = f + 1 := ⟨fuel - 1, by simp [OT.deep] at hf; omega⟩
    simp only [okOT, Bool.and_eq_true] at h
    obtain ⟨o, v, ho, hy, hw⟩ := hw
    exact wpAnyH_take ho hs h.1.1 h.1.2 (hQ o.dst v) hy hS (ih fuel _ _ w (by simpa [OT.deep] using hf) h.2 hS hw)
  | one i r ih =>
    intro fuel listed a w hf h hS hw
    obtain ⟨fuel, rfl⟩ : ∃ f, fuel = f + 1 := ⟨fuel - 1, by simp [OT.deep] at hf; omega⟩
    simp only [okOT, Bool.and_eq_true, beq_iff_eq] at h
    refine wpAnyH_all h.1 (by simp) fun j hj => ?_
    obtain rfl : j = i := by simpa using hj
    refine wpOp_mono (fun a' w' h' => ⟨h'.1, ih fuel _ a' w' (by simpa [OT.deep] using hf) h.2 h'.1 h'.2⟩) hw
  | two i r j s ihr ihs =>
    intro fuel listed a w hf h hS hw
    obtain ⟨fuel, rfl⟩ : ∃ f, fuel = f + 1 := ⟨fuel - 1, by simp [OT.deep] at hf; omega⟩
    simp only [okOT, Bool.and_eq_true, beq_iff_eq] at h
    simp only [OT.deep] at hf
    refine wpAnyH_all h.1 (by simp) fun k hk => ?_
    rcases (by simpa using hk : k = i ∨ k = j) with rfl | rfl
    · exact wpOp_mono (fun a' w' h' => ⟨h'.1, ihr fuel _ a' w' (by omega) h.2.1 h'.1 h'.2⟩) hw.1
    · exact wpOp_mono (fun a' w' h' => ⟨h'.1, ihs fuel _ a' w' (by omega) h.2.2 h'.1 h'.2⟩) hw.2

theorem wp_region_tree {id : Nat} {a : Act} {w : World} (t : OT) (S : World → Prop) (hm : P.follows .mixedOrders = true) (hs : Region.noSelect ops = true)
    (hl : t.deep ≤ ops.size) (ho : okOT ops t (Array.replicate ops.size false) = true) (hQ : ∀ (d : Option Tmp) (v : Value) c a w, Q (.panic c) (a.put d v) w → Q (.panic c) a w) (hS : S w.drew)
    (h : wpOT P ops Q S t a w.drew) : (Code.region id ops true).wp P Q a w :=
  wp_region_held hm (wpAnyH_of_OT hs hQ t ops.size _ a w.drew hl ho hS h)

theorem wpOT_nil {a : Act} {w : World} (h : Q .normal a w) : wpOT P ops Q S .nil a w := h
theorem wpOT_take {i : Nat} {o : Oper} {v : Value} {d : Tmp} {r : OT} {a : Act} {w : World} (ho : ops[i]? = some o) (hd : o.dst = some d) (hw : Region.wanted o (yielded ops a.tmps) = true)
    (hy : ∀ W, S W → (execOp a.eval o).run P W = .ok (.value v) W) (h : wpOT P ops Q S r { a with tmps := a.tmps.setIfInBounds d v } w) : wpOT P ops Q S (.look i r) a w :=
  ⟨o, v, ho, .inl ⟨hw, hy⟩, by rw [hd]; exact h⟩
theorem wpOT_do {i : Nat} {o : Oper} {r : OT} {a : Act} {w : World} (ho : ops[i]? = some o) (hw : Region.wanted o (yielded ops a.tmps) = true)
    (h : ∀ K : Act → World → Prop, (∀ a' w', S w' → wpOT P ops Q S r a' w' → K a' w') → o.wp P a w K Q) : wpOT P ops Q S (.one i r) a w := by
  show wpOp P ops Q i _ a w
  unfold wpOp
  simp only [ho, hw, if_true]
  exact .inl (h _ fun _ _ h1 h2 => ⟨h1, h2⟩)
theorem wpOT_two {i j : Nat} {r s : OT} {a : Act} {w : World} (h1 : wpOT P ops Q S (.one i r) a w) (h2 : wpOT P ops Q S (.one j s) a w) : wpOT P ops Q S (.two i r j s) a w := ⟨h1, h2⟩
end

attribute [irreducible] wpOT

end Go.Proofs.YtickjmkkgcfkhaaGreat
