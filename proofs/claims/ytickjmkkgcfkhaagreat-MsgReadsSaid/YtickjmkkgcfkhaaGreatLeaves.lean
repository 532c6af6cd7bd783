/- What came in, laid open to its cells: structs and arrays of whatever depth, whose cells are booleans, integers, strings, slices; and slices of such. No program is in sight. -/
import Derived.Test.YtickjmkkgcfkhaaGreatRowKit
import Derived.Deep.Slices
import Derived.ChangeArms
set_option linter.unusedSimpArgs false
set_option linter.unusedVariables false
set_option maxRecDepth 100000
namespace Go.Proofs.YtickjmkkgcfkhaaGreat
open Go.ChangeShapes Go.WideShapes Go.ChangeAt Go.RowKit Go.Deep

/-- The types of the cells of fields that lie one behind the other from off on. -/
def leavesF (P : Program) (L : TypeId → Option (List TypeId)) : Nat → List Field → Option (List TypeId)
  | _, [] => some []
  | off, f :: r => (L f.type).bind fun l => if f.offset = off ∧ P.cellsOf f.type = l.length then (leavesF P L (off + l.length) r).map (l ++ ·) else none
/-- The types of a type's cells. -/
def leaves (P : Program) : Nat → TypeId → Option (List TypeId)
  | 0, _ => none
  | n + 1, t => match P.underlying t with
    | some (.struct fs) => (leavesF P (leaves P n) 0 fs.toList).bind fun ts => if P.cellsOf t = ts.length then some ts else none
    | some (.array k e) => (leaves P n e).bind fun l => if P.cellsOf e = l.length ∧ P.cellsOf t = k * l.length then some (List.replicate k l).flatten else none
    | some .bool => some [t]
    | some .string => some [t]
    | some (.int _) => some [t]
    | some (.slice _) => some [t]
    | _ => none

section
variable {H : Type} (enc : TypeId × Value → H) (P : Program) (w : World) (base : Nat) (spare : Nat → Bool) (held : Bool)
/-- Cells, each of which reads at its own type; what its datum weighs is among W. -/
def Leafy (ts : List TypeId) (cs : List Value) (W : List Nat) : Prop :=
  cs.length = ts.length ∧ ∀ (j : Nat) (t : TypeId) (c : Value), ts[j]? = some t → cs[j]? = some c → ∃ (m : Nat) (y : DataW H × List MemPlace), DataW.trod enc P w base spare held m t [c] = some y ∧ ∀ n ∈ y.1.weights P t, n ∈ W
end

section
variable {H : Type} {enc : TypeId × Value → H} {P : Program} {w : World} {base : Nat} {spare : Nat → Bool} {held : Bool}
theorem Leafy.nil : Leafy enc P w base spare held [] [] [] := ⟨rfl, fun j t c h => by simp at h⟩
theorem Leafy.append {ts ts' : List TypeId} {cs cs' : List Value} {W W' : List Nat} (h : Leafy enc P w base spare held ts cs W) (h' : Leafy enc P w base spare held ts' cs' W') :
    Leafy enc P w base spare held (ts ++ ts') (cs ++ cs') (W ++ W') := by
  refine ⟨by rw [List.length_append, List.length_append, h.1, h'.1], fun j t c ht hc => ?_⟩
  by_cases hj : j < ts.length
  · rw [List.getElem?_append_left hj] at ht
    rw [List.getElem?_append_left (by rw [h.1]; exact hj)] at hc
    obtain ⟨m, y, h1, h2⟩ := h.2 j t c ht hc
    exact ⟨m, y, h1, fun n hn => List.mem_append_left _ (h2 n hn)⟩
  · rw [List.getElem?_append_right (by omega)] at ht
    rw [List.getElem?_append_right (by rw [h.1]; omega), h.1] at hc
    obtain ⟨m, y, h1, h2⟩ := h'.2 _ t c ht hc
    exact ⟨m, y, h1, fun n hn => List.mem_append_right _ (h2 n hn)⟩

theorem leafy_fields {n m : Nat} (ih : ∀ (t : TypeId) (ts : List TypeId) (fuel : Nat) (cs : List Value) (x : DataW H × List MemPlace), leaves P n t = some ts → DataW.trod enc P w base spare held fuel t cs = some x → Leafy enc P w base spare held ts cs (x.1.weights P t)) :
    ∀ (fl : List Field) (xs : List (DataW H × List MemPlace)) (off : Nat) (ts : List TypeId) (cs : List Value), leavesF P (leaves P n) off fl = some ts → xs.length = fl.length →
      (∀ (i : Nat) (f : Field), fl[i]? = some f → DataW.trod enc P w base spare held m f.type ((cs.drop f.offset).take (P.cellsOf f.type)) = xs[i]?) →
      Leafy enc P w base spare held ts ((cs.drop off).take ts.length) (DataW.weightsEach P (fl.map (·.type)) (xs.map (·.1)))
  | [], [], off, ts, cs, hl, _, _ => by
    simp only [leavesF, Option.some.injEq] at hl
    subst hl
    simpa [DataW.weightsEach] using Leafy.nil
  | [], _ :: _, _, _, _, _, h, _ => by simp at h
  | _ :: _, [], _, _, _, _, h, _ => by simp at h
  | f :: r, x :: xs, off, ts, cs, hl, hlen, hf => by
    simp only [leavesF, Option.bind_eq_some_iff] at hl
    obtain ⟨l, hl1, hl2⟩ := hl
    split at hl2
    · rename_i hc
      simp only [Option.map_eq_some_iff] at hl2
      obtain ⟨ts', hl3, rfl⟩ := hl2
      have h0 := hf 0 f rfl
      rw [hc.1, hc.2] at h0
      have k0 := ih f.type l m _ x hl1 (by simpa using h0)
      have k1 := leafy_fields ih r xs (off + l.length) ts' cs hl3 (by simpa using hlen) (fun i f' hf' => by simpa using hf (i + 1) f' (by simpa using hf'))
      have := k0.append k1
      rw [List.length_append, List.take_add, List.drop_drop]
      simpa [DataW.weightsEach] using this
    · cases hl2

theorem leafy_rows {e : TypeId} {l : List TypeId} {m : Nat} (ih : ∀ (cs : List Value) (x : DataW H × List MemPlace), DataW.trod enc P w base spare held m e cs = some x → Leafy enc P w base spare held l cs (x.1.weights P e)) :
    ∀ (k a : Nat) (xs : List (DataW H × List MemPlace)) (cs : List Value), xs.length = k →
      (∀ (i : Nat), i < k → DataW.trod enc P w base spare held m e ((cs.drop ((a + i) * l.length)).take l.length) = xs[i]?) →
      Leafy enc P w base spare held (List.replicate k l).flatten ((cs.drop (a * l.length)).take (k * l.length)) (DataW.weightsAll P e (xs.map (·.1)))
  | 0, a, xs, cs, hx, _ => by
    obtain rfl := List.eq_nil_of_length_eq_zero hx
    simpa [DataW.weightsAll] using Leafy.nil
  | k + 1, a, [], cs, hx, _ => by simp at hx
  | k + 1, a, x :: xs, cs, hx, hf => by
    have k0 := ih _ x (by simpa using hf 0 (by omega))
    have k1 := leafy_rows ih k (a + 1) xs cs (by simpa using hx) (fun i hi => by have := hf (i + 1) (by omega); rw [show a + 1 + i = a + (i + 1) from by omega]; simpa using this)
    have := k0.append k1
    rw [show (k + 1) * l.length = l.length + k * l.length from by rw [Nat.add_mul]; omega, List.take_add, List.drop_drop, show a * l.length + l.length = (a + 1) * l.length from by rw [Nat.add_mul]; omega]
    simpa [DataW.weightsAll, List.replicate_succ] using this

theorem leafy_of : ∀ (n : Nat) (t : TypeId) (ts : List TypeId) (fuel : Nat) (cs : List Value) (x : DataW H × List MemPlace), leaves P n t = some ts → DataW.trod enc P w base spare held fuel t cs = some x →
    Leafy enc P w base spare held ts cs (x.1.weights P t)
  | 0, _, _, _, _, _, h, _ => by simp [leaves] at h
  | n + 1, t, ts, fuel, cs, x, hl, h => by
    have one : ∀ c : Value, cs = [c] → Leafy enc P w base spare held [t] cs (x.1.weights P t) := by
      rintro c rfl
      refine ⟨rfl, fun j t' c' ht hc => ?_⟩
      cases j with
      | succ j => simp at ht
      | zero =>
        simp only [List.getElem?_cons_zero, Option.some.injEq] at ht hc
        subst ht; subst hc
        exact ⟨fuel, x, h, fun _ hn => hn⟩
    unfold leaves at hl
    split at hl
    · rename_i fs hu
      simp only [Option.bind_eq_some_iff] at hl
      obtain ⟨ts', h1, h2⟩ := hl
      split at h2
      · rename_i hc
        simp only [Option.some.injEq] at h2
        subst h2
        obtain ⟨xs, m, _, rfl, hcl, hxl, hf⟩ := DataW.trod_struct hu h
        have := leafy_fields (m := m) (leafy_of n) fs.toList xs 0 ts' cs h1 (by simpa using hxl) (fun i f hi => hf i f (by simpa using hi))
        have e : (cs.drop 0).take ts'.length = cs := by rw [List.drop_zero, ← hc, ← hcl, List.take_length]
        rw [e] at this
        simpa [DataW.weights, hu] using this
      · cases h2
    · rename_i k e hu
      simp only [Option.bind_eq_some_iff] at hl
      obtain ⟨l, h1, h2⟩ := hl
      split at h2
      · rename_i hc
        simp only [Option.some.injEq] at h2
        subst h2
        obtain ⟨xs, m, _, rfl, hcl, hxl, hf⟩ := DataW.trod_array hu h
        have := leafy_rows (m := m) (fun cs x hx => leafy_of n e l m cs x h1 hx) k 0 xs cs hxl (fun i hi => by rw [Nat.zero_add]; rw [hc.1] at hf; exact hf i hi)
        have e : (cs.drop (0 * l.length)).take (k * l.length) = cs := by rw [Nat.zero_mul, List.drop_zero, ← hc.2, ← hcl, List.take_length]
        rw [e] at this
        simpa [DataW.weights, hu] using this
      · cases h2
    · rename_i hu
      simp only [Option.some.injEq] at hl; subst hl
      obtain ⟨b, hb, _⟩ := DataW.trod_bool hu h
      exact one _ hb
    · rename_i hu
      simp only [Option.some.injEq] at hl; subst hl
      obtain ⟨b, hb, _⟩ := DataW.trod_string hu h
      exact one _ hb
    · rename_i k hu
      simp only [Option.some.injEq] at hl; subst hl
      obtain ⟨b, hb, _⟩ := DataW.trod_int hu h
      exact one _ hb
    · rename_i e hu
      simp only [Option.some.injEq] at hl; subst hl
      rcases DataW.trod_slice hu h with ⟨hb, _⟩ | ⟨a, len, cap, _, _, _, _, hb, _⟩
      · exact one _ hb
      · exact one _ hb
    · cases hl

theorem Leafy.int {ts : List TypeId} {cs : List Value} {W : List Nat} (h : Leafy enc P w base spare held ts cs W) {j : Nat} {t : TypeId} {k : IntKind} (ht : ts[j]? = some t) (hu : P.underlying t = some (.int k)) : ∃ n, cs[j]? = some (.int k n) ∧ (Lit.int k n).wf = true := by
  have hj : j < cs.length := by rw [h.1]; exact (List.getElem?_eq_some_iff.1 ht).1
  obtain ⟨m, y, h1, _⟩ := h.2 j t _ ht (List.getElem?_eq_getElem hj)
  obtain ⟨n, h2, _, h3⟩ := DataW.trod_int hu h1
  simp only [List.cons.injEq, and_true] at h2
  exact ⟨n, by rw [List.getElem?_eq_getElem hj, h2], h3⟩
theorem Leafy.bool {ts : List TypeId} {cs : List Value} {W : List Nat} (h : Leafy enc P w base spare held ts cs W) {j : Nat} {t : TypeId} (ht : ts[j]? = some t) (hu : P.underlying t = some .bool) : ∃ b, cs[j]? = some (.bool b) := by
  have hj : j < cs.length := by rw [h.1]; exact (List.getElem?_eq_some_iff.1 ht).1
  obtain ⟨m, y, h1, _⟩ := h.2 j t _ ht (List.getElem?_eq_getElem hj)
  obtain ⟨n, h2, _⟩ := DataW.trod_bool hu h1
  simp only [List.cons.injEq, and_true] at h2
  exact ⟨n, by rw [List.getElem?_eq_getElem hj, h2]⟩

/-- A slice of such: its elements' cells. -/
theorem slice_rows {t e : TypeId} {n : Nat} {ts : List TypeId} {W : World} {a0 : Option Addr} {len cap : Nat} {d : DataW H} {p : List MemPlace} (ht : P.underlying t = some (.slice e)) (hl : leaves P n e = some ts) (hC : P.cellsOf e = ts.length)
    (h : DataW.Trod enc P W 0 (fun _ => true) true t (.slice a0 len cap) d p) :
    ∃ rows : List (List Value), rows.length = len ∧ (∀ (i : Nat) (row : List Value), rows[i]? = some row → ∃ X, Leafy enc P W 0 (fun _ => true) true ts row X ∧ ∀ n ∈ X, n ∈ d.weights P t) ∧
      (∀ (i j : Nat) (row : List Value) (c : Value), rows[i]? = some row → row[j]? = some c → ∃ ad, a0 = some ad ∧ W.cell? (ad.add (i * ts.length + j)) = some c) ∧ (len = 0 ∨ ∃ x y, d = .slice x y ∧ x.length = len) ∧ len ≤ cap ∧ cap ≤ maxLen ∧ (a0 = none → cap = 0) := by
  obtain ⟨fuel, hf⟩ := h
  have hcells : (Value.slice a0 len cap).cells.toList = [.slice a0 len cap] := rfl
  rw [hcells] at hf
  rcases DataW.trod_slice ht hf with ⟨hcs, _⟩ | ⟨ad, len', cap', elems, rest, m, _, hcs, hx, hb, hl', hm, hlen, hel, hsp, _⟩
  · simp only [List.cons.injEq, Value.slice.injEq, and_true] at hcs
    obtain ⟨rfl, rfl, rfl⟩ := hcs
    exact ⟨[], rfl, fun i row h => by simp at h, fun i j row c h => by simp at h, .inl rfl, Nat.le_refl _, by simp [maxLen], fun _ => rfl⟩
  · simp only [List.cons.injEq, Value.slice.injEq, and_true] at hcs
    obtain ⟨rfl, rfl, rfl⟩ := hcs
    simp only [Prod.mk.injEq] at hx
    obtain ⟨rfl, _⟩ := hx
    have key : ∀ i, i < len → ∃ cs', W.cells? 0 (ad.add (i * ts.length)) ts.length = some cs' ∧ ∃ y, elems[i]? = some y ∧ DataW.trod enc P W 0 (fun _ => true) true m e cs' = some y := by
      intro i hi
      have := hel i hi
      rw [List.getElem?_eq_getElem (by omega), hC] at this
      simp only [Option.bind_eq_some_iff] at this
      obtain ⟨cs', h1, h2⟩ := this
      exact ⟨cs', h1, _, List.getElem?_eq_getElem (by omega), h2⟩
    refine ⟨(List.range len).map fun i => ((W.cells? 0 (ad.add (i * ts.length)) ts.length).getD []), by simp, ?_, ?_, .inr ⟨_, _, rfl, by simpa using hlen⟩, hl', hm, fun h => by cases h⟩
    · intro i row hr
      simp only [List.getElem?_map, Option.map_eq_some_iff] at hr
      obtain ⟨i', hi', rfl⟩ := hr
      obtain ⟨hi1, rfl⟩ : i < len ∧ i' = i := by
        by_cases hil : i < len
        · rw [List.getElem?_range hil] at hi'; simp only [Option.some.injEq] at hi'; exact ⟨hil, hi'.symm⟩
        · rw [List.getElem?_eq_none (by simp; omega)] at hi'; cases hi'
      obtain ⟨cs', h1, y, hy, h2⟩ := key _ hi1
      rw [h1, Option.getD_some]
      refine ⟨_, leafy_of n e ts m cs' y hl h2, fun k hk => ?_⟩
      simp only [DataW.weights, ht, List.mem_cons, List.mem_append]
      right; left
      exact weightsAll_mem (List.mem_map.2 ⟨y, List.mem_of_getElem? hy, rfl⟩) k hk
    · intro i j row c hr hc
      simp only [List.getElem?_map, Option.map_eq_some_iff] at hr
      obtain ⟨i', hi', rfl⟩ := hr
      obtain ⟨hi1, rfl⟩ : i < len ∧ i' = i := by
        by_cases hil : i < len
        · rw [List.getElem?_range hil] at hi'; simp only [Option.some.injEq] at hi'; exact ⟨hil, hi'.symm⟩
        · rw [List.getElem?_eq_none (by simp; omega)] at hi'; cases hi'
      obtain ⟨cs', h1, y, hy, h2⟩ := key _ hi1
      rw [h1, Option.getD_some] at hc
      obtain ⟨_, hcl, hat⟩ := World.cells?_some h1
      have hj : j < ts.length := by rw [← hcl]; exact (List.getElem?_eq_some_iff.1 hc).1
      refine ⟨ad, rfl, ?_⟩
      have := hat j hj
      rw [← Go.Deep.add_add, this, hc]
end

/-- A field's cell, as the walk spells it. -/
theorem add_field (ad : Addr) (n j : Nat) (hj : 0 < j) : ad.add (n + j) = ⟨(ad.add n).block, (ad.add n).off + j, none⟩ := by
  unfold Addr.add
  have h1 : n + j ≠ 0 := by omega
  by_cases h : n = 0
  · simp [h1, h]; omega
  · simp [h1, h]; omega

/-- Each of a list has a form: the list is one of such. -/
theorem all_form {α β : Type} {f : α → β} {Q : α → Prop} : ∀ l : List β, (∀ (i : Nat) (y : β), l[i]? = some y → ∃ x, Q x ∧ y = f x) → ∃ xs : List α, l = xs.map f ∧ ∀ x ∈ xs, Q x
  | [], _ => ⟨[], rfl, by simp⟩
  | y :: l, h => by
    obtain ⟨x, hx, rfl⟩ := h 0 y rfl
    obtain ⟨xs, rfl, hxs⟩ := all_form l fun i y hy => h (i + 1) y (by simpa using hy)
    exact ⟨x :: xs, rfl, by simpa using ⟨hx, hxs⟩⟩

end Go.Proofs.YtickjmkkgcfkhaaGreat
