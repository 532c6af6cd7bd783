/- The laws' message of parts may be, whatever the parts. -/
import Derived.Test.YtickjmkkgcfkhaaMsT
set_option linter.unusedSimpArgs false
set_option linter.unusedVariables false
set_option maxRecDepth 100000
namespace Go.Proofs.Ytickjmkkgcfkhaa
open Go.RowKit Go.ChangeShapes Go.WideShapes

theorem chkA_of (org : Int) : ∀ (l : List (Int × Int)) (last : Int), (∀ a ∈ l, 1 ≤ a.1 ∧ a.1 ≤ 24 ∧ a.1 ≠ org ∧ 1 ≤ a.2 ∧ a.2 ≤ 1000) → l.Pairwise (fun a b => a.1 < b.1) → (∀ a ∈ l, last < a.1) → chkA org last l = true
  | [], _, _, _, _ => rfl
  | a :: l, last, h1, h2, h3 => by
    obtain ⟨p1, p2⟩ := List.pairwise_cons.1 h2
    have ha := h1 a (List.mem_cons_self ..)
    have hl := h3 a (List.mem_cons_self ..)
    simp only [chkA, rtr, Bool.and_eq_true, decide_eq_true_eq]
    exact ⟨⟨⟨⟨⟨⟨ha.1, ha.2.1⟩, ha.2.2.1⟩, ha.2.2.2.1⟩, ha.2.2.2.2⟩, hl⟩, chkA_of org l a.1 (fun b hb => h1 b (List.mem_cons_of_mem _ hb)) p2 p1⟩
theorem adjU_all {f c lim : Nat} (hc : 1 ≤ c ∧ c ≤ 1000) : ∀ k, (∀ a ∈ adjU f c lim k, 1 ≤ a.1 ∧ a.1 ≤ (k : Int) ∧ a.1 ≠ (f : Int) ∧ 1 ≤ a.2 ∧ a.2 ≤ 1000) ∧ (adjU f c lim k).Pairwise (fun a b => a.1 < b.1) ∧ (adjU f c lim k).length ≤ lim
  | 0 => ⟨fun a h => by simp [adjU] at h, List.Pairwise.nil, Nat.zero_le _⟩
  | k + 1 => by
    obtain ⟨h1, h2, h3⟩ := adjU_all (f := f) (c := c) (lim := lim) hc k
    rw [adjU]
    split
    · rename_i hlt
      refine ⟨fun a ha => ?_, List.pairwise_append.2 ⟨h2, List.pairwise_singleton _ _, fun a ha b hb => ?_⟩, by rw [List.length_append, List.length_singleton]; omega⟩
      · rcases List.mem_append.1 ha with ha | ha
        · have := h1 a ha; omega
        · rw [List.mem_singleton] at ha; subst ha; simp only; omega
      · rw [List.mem_singleton] at hb; subst hb
        have := h1 a ha; simp only; omega
    · exact ⟨fun a ha => by have := h1 a ha; omega, h2, h3⟩
theorem rtr_of {n : Nat} : rtr ((n % 24 + 1 : Nat) : Int) = true := by
  simp only [rtr, Bool.and_eq_true, decide_eq_true_eq]
  omega
theorem below256 (x : Bt) (hx : x.ok) : below x 256 = true := by
  obtain ⟨h1, h2, h3, h4⟩ := hx
  unfold below Bt.num
  rw [decide_eq_true_eq]
  refine ⟨by omega, by omega, ?_⟩
  show _ < 2 ^ 256
  omega
theorem ofM_ok (p : Pt) (hp : p.ok) : (ofM p).ok := by
  obtain ⟨hk0, hk1, hk2, hk3, hk4, hk5, hk6, hk7, hk8, hk9⟩ := hp
  obtain ⟨z1, z2, z3, z4, z5, z6, z7, z8⟩ := Ms.zero_ok
  unfold ofM
  split
  · exact ⟨by unfold I64; simp, ⟨by simp only; omega, by simp only; omega, by simp only; omega, by simp only; omega⟩, z3, z4, z5, z6, z7, z8⟩
  · split
    · exact ⟨by unfold I64; simp, z2, ⟨by simp only; omega, by simp only; omega, by simp only; omega⟩, z4, z5, z6, z7, z8⟩
    · split
      · refine ⟨by unfold I64; simp, z2, z3, ⟨by unfold I64; simp, ?_, hk6, ?_, ?_, ?_, hk8, hk9⟩, z5, z6, z7, z8⟩ <;> (unfold I64; simp only; omega)
      · split
        · refine ⟨by unfold I64; simp, z2, z3, z4, ?_, ?_, ⟨?_, ?_, ?_, hk5⟩, z8⟩ <;> (try unfold I64) <;> simp only <;> omega
        · refine ⟨by unfold I64; simp, z2, z3, z4, ?_, ?_, z7, ⟨?_, ?_, ?_, ?_, ?_⟩⟩ <;> (try unfold I64) <;> simp only <;> omega
theorem chk_k1 (rc : Rc) : ({ Ms.zero with kd := 1, rc := rc } : Ms).chk = rc.chk := rfl
theorem chk_k2 (st : St) : ({ Ms.zero with kd := 2, st := st } : Ms).chk = st.may := rfl
theorem chk_k3 (hd : Hd) : ({ Ms.zero with kd := 3, hd := hd } : Ms).chk = hd.chk := rfl
theorem chk_k4 (d h : Int) (wi : Wi) : ({ Ms.zero with kd := 4, dst := d, hops := h, wi := wi } : Ms).chk = ((rtr d && decide (0 ≤ h) && decide (h ≤ 24)) && wi.may) := rfl
theorem chk_k5 (d h : Int) (ak : Ak) : ({ Ms.zero with kd := 5, dst := d, hops := h, ak := ak } : Ms).chk = ((rtr d && decide (0 ≤ h) && decide (h ≤ 24)) && ak.may) := rfl
theorem ofM_chk (p : Pt) (hp : p.ok) : (ofM p).chk = true := by
  have hk9 := hp.2.2.2.2.2.2.2.2.2
  unfold ofM
  split
  · have hA := adjU_all (f := p.fr % 24 + 1) (c := p.ep % 1000 + 1) (lim := p.nr % 17) ⟨by omega, by omega⟩ 24
    refine (chk_k1 _).trans ?_
    have h3 := hA.2.2
    have h4 := chkA_of ((p.fr % 24 + 1 : Nat) : Int) (adjU (p.fr % 24 + 1) (p.ep % 1000 + 1) (p.nr % 17) 24) 0 (fun a ha => by have := hA.1 a ha; omega) hA.2.1 (fun a ha => by have := hA.1 a ha; omega)
    unfold Rc.chk
    rw [rtr_of, h4]
    simp only [Bool.and_eq_true, decide_eq_true_eq, Bool.true_and, Bool.and_true]
    omega
  · split
    · refine (chk_k2 _).trans ?_
      unfold St.may
      rw [rtr_of]
      simp only [Bool.and_eq_true, decide_eq_true_eq, Bool.true_and]
      omega
    · split
      · refine (chk_k3 _).trans ?_
        unfold Hd.chk
        simp only
        rw [below256 _ hk9]
        have hw : wide 256 = true := by decide
        rw [hw]
        simp only [Bool.and_eq_true, decide_eq_true_eq, Bool.and_true, Bool.true_and]
        exact ⟨⟨⟨⟨⟨⟨⟨by omega, by omega⟩, by omega⟩, by omega⟩, by omega⟩, by omega⟩, by omega⟩, by omega⟩
      · split
        · refine (chk_k4 _ _ _).trans ?_
          unfold Wi.may
          simp only
          rw [rtr_of, rtr_of]
          simp only [Bool.and_eq_true, decide_eq_true_eq, Bool.true_and]
          omega
        · refine (chk_k5 _ _ _).trans ?_
          unfold Ak.may
          simp only
          rw [rtr_of, rtr_of, rtr_of]
          simp only [Bool.and_eq_true, decide_eq_true_eq, Bool.true_and]
          omega

end Go.Proofs.Ytickjmkkgcfkhaa
