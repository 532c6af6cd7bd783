/- Plain words about the order of the neighbours, and two rows that grow side by side. -/
import Derived.Test.YtmjaompepchieaaPickFallsW
set_option linter.unusedSimpArgs false
set_option linter.unusedVariables false
namespace Go.Proofs.Ytmjaompepchieaa
open Go.RowKit Go.ChangeShapes Go.WideShapes Go.Sort

theorem pk_max (e : Nat) (l : List Int) : ∀ k j, j ≤ k → key e (l.getD j 0) ≤ key e (pk e l k)
  | 0, j, h => by
    obtain rfl : j = 0 := by omega
    exact Nat.le_refl _
  | k + 1, j, h => by
    have hp : pk e l (k + 1) = if bet e (l.getD (k + 1) 0) (pk e l k) = true then l.getD (k + 1) 0 else pk e l k := rfl
    rw [hp]
    cases hb : bet e (l.getD (k + 1) 0) (pk e l k) with
    | true =>
      rw [if_pos rfl]
      have hb' : key e (pk e l k) < key e (l.getD (k + 1) 0) := of_decide_eq_true hb
      by_cases hj : j = k + 1
      · rw [hj]; exact Nat.le_refl _
      · have := pk_max e l k j (by omega); omega
    | false =>
      rw [if_neg (by simp)]
      have hb' : ¬ key e (pk e l k) < key e (l.getD (k + 1) 0) := of_decide_eq_false hb
      by_cases hj : j = k + 1
      · rw [hj]; omega
      · exact pk_max e l k j (by omega)
theorem bst_max (e : Nat) {l : List Int} {j : Nat} (hj : j < l.length) : key e (l.getD j 0) ≤ key e (bst e l) := pk_max e l (l.length - 1) j (by omega)
theorem mem_at {l : List Int} {x : Int} (h : x ∈ l) : ∃ j, j < l.length ∧ l.getD j 0 = x := by
  obtain ⟨j, hj, rfl⟩ := List.mem_iff_getElem.1 h
  exact ⟨j, hj, by rw [List.getD_eq_getElem?_getD, List.getElem?_eq_getElem hj]; rfl⟩
theorem at_mem {l : List Int} {j : Nat} (h : j < l.length) : l.getD j 0 ∈ l := by
  rw [List.getD_eq_getElem?_getD, List.getElem?_eq_getElem h]
  exact List.getElem_mem h
theorem rk_head {e : Nat} {l : List Int} (he : e < 4294967296) (hl : nbs 0 l = true) (h0 : 0 < l.length) : (rk e l).getD 0 0 = bst e l := by
  obtain ⟨i, hi, hb⟩ := bst_in e h0
  have hm : bst e l ∈ rk e l := (rk_perm e l).mem_iff.2 (by rw [← hb]; exact at_mem hi)
  obtain ⟨j, hj, hjb⟩ := mem_at hm
  rw [rk_len] at hj
  by_cases h : j = 0
  · rw [← h, hjb]
  · have h1 := rk_at he hl (i := 0) (j := j) (by omega) hj
    rw [hjb] at h1
    obtain ⟨k, hk, hkb⟩ := mem_at ((rk_perm e l).mem_iff.1 (at_mem (l := rk e l) (j := 0) (by rw [rk_len]; exact h0)))
    have h2 := bst_max e hk
    rw [hkb] at h2
    omega
theorem filter_nbs {l : List Int} (p : Int → Bool) (h : nbs 0 l = true) : nbs 0 (l.filter p) = true := by
  obtain ⟨h1, h2⟩ := nbs_rise l 0 h
  exact nbs_of _ _ (List.Pairwise.filter _ h1) fun x hx => h2 x (List.mem_filter.1 hx).1
theorem rk_filter {e : Nat} {l : List Int} (he : e < 4294967296) (hl : nbs 0 l = true) (p : Int → Bool) : rk e (l.filter p) = (rk e l).filter p :=
  rk_eq he (nbs_rise _ 0 (filter_nbs p hl)).2 ((rk_perm e l).filter p) (List.Pairwise.filter _ (rk_pair e l))
/-- Without the one that went: if none is left, it was the best; else it was, or the best is as before. -/
theorem best_gone {e : Nat} {l : List Int} {g : Int} (he : e < 4294967296) (hl : nbs 0 l = true) (h0 : 0 < l.length) (hne : bst e l ≠ g) : 0 < (l.filter (· != g)).length ∧ bst e (l.filter (· != g)) = bst e l := by
  obtain ⟨i, hi, hb⟩ := bst_in e h0
  have hm : bst e l ∈ l.filter (· != g) := List.mem_filter.2 ⟨by rw [← hb]; exact at_mem hi, by simpa using hne⟩
  have hlen : 0 < (l.filter (· != g)).length := List.length_pos_of_mem hm
  refine ⟨hlen, ?_⟩
  rw [← rk_head he (filter_nbs _ hl) hlen, rk_filter he hl]
  have hh := rk_head he hl h0
  have hlr := rk_len e l
  cases hr : rk e l with
  | nil => rw [hr] at hlr; simp at hlr; omega
  | cons a t =>
    rw [hr] at hh
    have ha : a = bst e l := by simpa using hh
    rw [List.filter_cons, ha, if_pos (by simpa using hne)]
    rfl

/-- The first k of a list, without one. -/
def flt (g : Int) (l : List Int) (k : Nat) : List Int := (l.take k).filter (· != g)
theorem flt_step {g : Int} {l : List Int} {k : Nat} (hk : k < l.length) : flt g l (k + 1) = if (l.getD k 0 != g) = true then flt g l k ++ [l.getD k 0] else flt g l k := by
  unfold flt
  rw [List.take_add_one, List.filter_append, List.getElem?_eq_getElem hk, List.getD_eq_getElem?_getD, List.getElem?_eq_getElem hk]
  simp only [Option.toList_some, Option.getD_some, List.filter_cons, List.filter_nil]
  split <;> simp
theorem flt_all {g : Int} {l : List Int} : flt g l l.length = l.filter (· != g) := by unfold flt; rw [List.take_length]
theorem flt_len (g : Int) (l : List Int) (k : Nat) : (flt g l k).length ≤ k := Nat.le_trans (List.length_filter_le _ _) (by rw [List.length_take]; omega)

/-- Two rows of the call's own, side by side. -/
structure Two (V : World) (v u : Value) (xs ys : List Int) (wr : World) : Prop where
  rv : Row wr V.heap.size 3 1 v xs.length (ints xs)
  ru : Row wr V.heap.size 3 1 u ys.length (ints ys)
  ne : ∀ k, v.ownBlock = some k → u.ownBlock = some k → False
  bel : Below V.heap.size V wr
theorem Two.turn {V wr : World} {v u : Value} {xs ys : List Int} (h : Two V v u xs ys wr) : Two V u v ys xs wr := ⟨h.ru, h.rv, fun k h1 h2 => h.ne k h2 h1, h.bel⟩
theorem Two.more {V wr w' : World} {v u v' : Value} {xs ys : List Int} {x : Int} {o : Obj} (h : Two V v u xs ys wr) (hr : Row w' V.heap.size 3 1 v' (xs.length + 1) (ints xs ++ [.int .i64 x])) (hg : (wr.alloc o).grownBy w' v.ownBlock) (hb : v'.ownBlock = v.ownBlock ∨ v'.ownBlock = some (wr.heap.size + 1)) : Two V v' u (xs ++ [x]) ys w' := by
  refine ⟨by simpa [ints] using hr, ?_, ?_, below_one h.bel h.bel.size hg fun k hk => (h.rv.lt k hk).1⟩
  · refine (h.ru.alloc o).kept hg ?_
    cases hu : u.ownBlock with
    | none => exact .inl rfl
    | some k => exact .inr fun he => h.ne k he.symm hu
  · intro k h1 h2
    rcases hb with hb | hb
    · exact h.ne k (by rw [← hb]; exact h1) h2
    · rw [hb] at h1
      have := (h.ru.lt k h2).2
      simp at h1
      omega
theorem wpList_append_one2 {P : Program} {w : World} {ops : Array Oper} {rest : List Oper} {o : Oper} {a : Act} {Q : Exit → Act → World → Prop} (hgd : o.guard = none) (s x : Operand) (t : TypeId)
    (ho : o.op = .call { callee := .builtin .append, args := #[s, x], argTypes := #[t, t] })
    (base : Nat) (e : TypeId) (i : TypeInfo) (z : Value) (bytes : Nat) (ht : P.underlying t = some (.slice e)) (hi : P.info? e = some i) (hz : i.zero = some z)
    (hsize : i.size = 1) (hby : i.bytes = bytes) (hzs : z.cells.size = 1)
    (v : Value) (n : Nat) (xs : List Value) (u : Value) (hown : Row w base e 1 v n xs) (hs : a.eval s = v)
    (hx : a.eval x = .slice (some ⟨w.heap.size, 0, none⟩) 1 1) (hu : u.oneCell' = true)
    (h63 : n + 1 ≤ maxLen) (hbytes : (n + 1) * bytes ≤ 140737488355328) (hbase : base ≤ w.heap.size)
    (h : ∀ v' w', Row w' base e 1 v' (n + 1) (xs ++ [u]) → (w.alloc (.cells #[u] e)).grownBy w' v.ownBlock → (v'.ownBlock = v.ownBlock ∨ v'.ownBlock = some (w.alloc (.cells #[u] e)).heap.size) → wpList P ops Q rest (a.put o.dst v') w') : wpList P ops Q (o :: rest) a (w.alloc (.cells #[u] e)) :=
  wpList_append_row (w.alloc (.cells #[u] e)) hgd s x t ho base e i z 1 bytes ht hi hz hsize hby hzs (by decide) v n xs hs (hown.alloc _) ⟨w.heap.size, 0, none⟩ 1 1 [u] hx rfl (cell_one_new _ _ _) (by intro y hy; simp at hy; subst hy; exact hu) h63 hbytes (by simp; omega) fun v' w' h2 h3 _ h5 => h v' w' h2 h3 h5

end Go.Proofs.Ytmjaompepchieaa
