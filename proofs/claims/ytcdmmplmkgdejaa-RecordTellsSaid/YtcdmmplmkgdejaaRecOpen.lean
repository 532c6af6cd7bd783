/- The record's laws: a record and a stamp that came in, laid open. -/
import Derived.Test.YtcdmmplmkgdejaaRecX
import Derived.Test.YtcdmmplmkgdejaaLeaves
set_option linter.unusedSimpArgs false
set_option linter.unusedVariables false
namespace Go.Proofs.Ytcdmmplmkgdejaa
open Go.ChangeShapes Go.WideShapes Go.ChangeAt Go.RowKit Go.Deep

theorem stamp_open {H : Type} {enc : TypeId × Value → H} {r : Reach} {base : Nat} {W : World} {v : Value} {d : DataW H} {p : List MemPlace} (hv : Value.okWide Try.prog W r base 39 v) (h : DataW.Trod enc Try.prog W 0 (fun _ => true) true 39 v d p) (_ : ∀ n ∈ d.weights Try.prog 39, n ≤ reachBytes) :
    ∃ s : St, v = s.ag ∧ s.ok := by
  obtain ⟨cs, rfl, hsz⟩ := okWide_struct Try.underlying39 hv
  obtain ⟨fuel, hf⟩ := h
  have hX := leafy_of (n := 6) _ [3, 22, 22] fuel _ _ (by kernel_rfl) hf
  obtain ⟨n0, e0, b0⟩ := hX.int (j := 0) rfl Try.underlying3
  obtain ⟨n1, e1, b1⟩ := hX.int (j := 1) rfl Try.underlying22
  obtain ⟨n2, e2, b2⟩ := hX.int (j := 2) rfl Try.underlying22
  have c0 := bounds_i64 b0; have c1 := bounds_u32 b1; have c2 := bounds_u32 b2
  obtain ⟨k1, rfl⟩ : ∃ k : Nat, n1 = k := ⟨n1.toNat, by omega⟩
  obtain ⟨k2, rfl⟩ : ∃ k : Nat, n2 = k := ⟨n2.toNat, by omega⟩
  refine ⟨⟨n0, k1, k2⟩, ?_, ?_⟩
  · obtain ⟨l⟩ := cs
    have hl : l.length = 3 := hX.1
    replace e0 : l[0]? = _ := e0
    replace e1 : l[1]? = _ := e1
    replace e2 : l[2]? = _ := e2
    match l, hl with
    | [x0, x1, x2], _ => simp at e0 e1 e2; rw [e0, e1, e2]; rfl
  · exact ⟨by simp only; omega, by simp only; omega, by simp only; omega⟩

theorem Leafy.slice' {H : Type} {enc : TypeId × Value → H} {P : Program} {w : World} {base : Nat} {spare : Nat → Bool} {held : Bool} {ts : List TypeId} {cs : List Value} {W : List Nat} (h : Leafy enc P w base spare held ts cs W) {j : Nat} {t e : TypeId} (ht : ts[j]? = some t) (hu : P.underlying t = some (.slice e)) :
    ∃ a n cap, cs[j]? = some (.slice a n cap) ∧ n ≤ cap ∧ cap ≤ maxLen := by
  have hj : j < cs.length := by rw [h.1]; exact (List.getElem?_eq_some_iff.1 ht).1
  obtain ⟨m, y, h1, _⟩ := h.2 j t _ ht (List.getElem?_eq_getElem hj)
  rw [List.getElem?_eq_getElem hj]
  rcases DataW.trod_slice hu h1 with ⟨hcs, _⟩ | ⟨ad, len', cap', elems, rest, m', _, hcs, hx, hb, hl', hm, _⟩
  · simp only [List.cons.injEq, and_true] at hcs
    exact ⟨none, 0, 0, by rw [hcs], Nat.le_refl _, by simp [maxLen]⟩
  · simp only [List.cons.injEq, and_true] at hcs
    exact ⟨_, _, _, by rw [hcs], hl', hm⟩
theorem adjs_of {W : World} {a0 : Option Addr} {xs : List (Int × Int)}
    (h : ∀ (i j : Nat) (row : List Value) (c : Value), (xs.map fun a => [Value.int .i64 a.1, Value.int .i64 a.2])[i]? = some row → row[j]? = some c → ∃ ad, a0 = some ad ∧ W.cell? (ad.add (i * 2 + j)) = some c) : AdjsIn W a0 xs := fun i hi => by
  have hr : (xs.map fun a => [Value.int .i64 a.1, Value.int .i64 a.2])[i]? = some [Value.int .i64 (xs.getD i default).1, Value.int .i64 (xs.getD i default).2] := by
    rw [List.getElem?_map, List.getElem?_eq_getElem hi, List.getD_eq_getElem?_getD, List.getElem?_eq_getElem hi]; rfl
  obtain ⟨ad, h1, h2⟩ := h i 0 _ _ hr rfl
  obtain ⟨ad', h1', h3⟩ := h i 1 _ _ hr rfl
  rw [h1] at h1'
  simp only [Option.some.injEq] at h1'
  subst h1'
  refine ⟨ad, h1, h2, ?_⟩
  rw [add_field _ _ _ (by omega)] at h3
  exact h3

theorem record_open {H : Type} {enc : TypeId × Value → H} {r : Reach} {base : Nat} {W : World} {v : Value} {d : DataW H} {p : List MemPlace} (hv : Value.okWide Try.prog W r base 25 v) (h : DataW.Trod enc Try.prog W 0 (fun _ => true) true 25 v d p) (_ : ∀ n ∈ d.weights Try.prog 25, n ≤ reachBytes) :
    ∃ x : Rc × Option Addr × Nat, v = x.1.ag x.2.1 x.2.2 ∧ x.1.ok ∧ AdjsIn W x.2.1 x.1.adjs ∧ x.1.adjs.length ≤ maxLen ∧ (∀ a ∈ x.1.adjs, (-9223372036854775808 ≤ a.1 ∧ a.1 ≤ 9223372036854775807) ∧ (-9223372036854775808 ≤ a.2 ∧ a.2 ≤ 9223372036854775807)) ∧ x.1.adjs.length ≤ x.2.2 := by
  obtain ⟨cs, rfl, hsz⟩ := okWide_struct Try.underlying25 hv
  obtain ⟨fuel, hf⟩ := h
  have hX := leafy_of (n := 6) _ [3, 22, 22, 3, 4, 23] fuel _ _ (by kernel_rfl) hf
  obtain ⟨n0, e0, b0⟩ := hX.int (j := 0) rfl Try.underlying3
  obtain ⟨n1, e1, b1⟩ := hX.int (j := 1) rfl Try.underlying22
  obtain ⟨n2, e2, b2⟩ := hX.int (j := 2) rfl Try.underlying22
  obtain ⟨n3, e3, b3⟩ := hX.int (j := 3) rfl Try.underlying3
  obtain ⟨n4, e4⟩ := hX.bool (j := 4) rfl Try.underlying4
  have c0 := bounds_i64 b0; have c1 := bounds_u32 b1; have c2 := bounds_u32 b2; have c3 := bounds_i64 b3
  obtain ⟨k1, rfl⟩ : ∃ k : Nat, n1 = k := ⟨n1.toNat, by omega⟩
  obtain ⟨k2, rfl⟩ : ∃ k : Nat, n2 = k := ⟨n2.toNat, by omega⟩
  have hl : cs.toList.length = 6 := hX.1
  obtain ⟨sa, len, cap, es, hlc', hcm'⟩ := Leafy.slice' hX (j := 5) rfl Try.underlying23
  obtain ⟨m, y, h1, _⟩ := hX.2 5 _ _ rfl es
  obtain ⟨rows, hrl, hfr, hc, _, hlc, hcm, _⟩ := slice_rows (n := 6) (ts := [3, 3]) (d := y.1) (p := y.2) Try.underlying23 (by kernel_rfl) (by kernel_rfl) ⟨m, h1⟩
  obtain ⟨xs, rfl, hok⟩ := all_form (f := fun a : Int × Int => [Value.int .i64 a.1, Value.int .i64 a.2]) (Q := fun a => (-9223372036854775808 ≤ a.1 ∧ a.1 ≤ 9223372036854775807) ∧ (-9223372036854775808 ≤ a.2 ∧ a.2 ≤ 9223372036854775807)) rows (by
    intro i row hr
    obtain ⟨X, hY, _⟩ := hfr i row hr
    obtain ⟨m0, f0, g0⟩ := hY.int (j := 0) rfl Try.underlying3
    obtain ⟨m1, f1, g1⟩ := hY.int (j := 1) rfl Try.underlying3
    refine ⟨(m0, m1), ⟨bounds_i64 g0, bounds_i64 g1⟩, ?_⟩
    have hl := hY.1
    match row, hl with
    | [x0, x1], _ => simp at f0 f1; rw [f0, f1])
  rw [List.length_map] at hrl
  refine ⟨(⟨n0, k1, k2, n3, n4, xs⟩, sa, cap), ?_, ?_, adjs_of hc, by simp only; omega, hok, by simp only; omega⟩
  · obtain ⟨l⟩ := cs
    replace hl : l.length = 6 := hl
    replace e0 : l[0]? = _ := e0
    replace e1 : l[1]? = _ := e1
    replace e2 : l[2]? = _ := e2
    replace e3 : l[3]? = _ := e3
    replace e4 : l[4]? = _ := e4
    replace es : l[5]? = _ := es
    match l, hl with
    | [x0, x1, x2, x3, x4, x5], _ => simp at e0 e1 e2 e3 e4 es; rw [e0, e1, e2, e3, e4, es, ← hrl]; rfl
  · exact ⟨by simp only; omega, by simp only; omega, by simp only; omega, by simp only; omega⟩

end Go.Proofs.Ytcdmmplmkgdejaa
