/- The header's laws: a header and bits that came in, laid open. -/
import Derived.Test.YtbcgfojdlehnpaaHdEq
import Derived.Test.YtbcgfojdlehnpaaLeaves
import Derived.Test.YtbcgfojdlehnpaaRowKit
set_option linter.unusedSimpArgs false
set_option linter.unusedVariables false
namespace Go.Proofs.Ytbcgfojdlehnpaa
open Go.ChangeShapes Go.WideShapes Go.ChangeAt Go.RowKit Go.Deep

theorem header_open {H : Type} {enc : TypeId × Value → H} {r : Reach} {base : Nat} {W : World} {v : Value} {d : DataW H} {p : List MemPlace} (hv : Value.okWide Try.prog W r base 27 v) (h : DataW.Trod enc Try.prog W 0 (fun _ => true) true 27 v d p) (_ : ∀ n ∈ d.weights Try.prog 27, n ≤ reachBytes) :
    ∃ s : Hd, v = s.ag ∧ s.ok := by
  obtain ⟨cs, rfl, hsz⟩ := okWide_struct Try.underlying27 hv
  obtain ⟨fuel, hf⟩ := h
  have hX := leafy_of (n := 6) _ [3, 3, 22, 3, 3, 3, 22, 23, 23, 23, 23] fuel _ _ (by kernel_rfl) hf
  obtain ⟨n0, e0, b0⟩ := hX.int (j := 0) rfl Try.underlying3
  obtain ⟨n1, e1, b1⟩ := hX.int (j := 1) rfl Try.underlying3
  obtain ⟨n2, e2, b2⟩ := hX.int (j := 2) rfl Try.underlying22
  obtain ⟨n3, e3, b3⟩ := hX.int (j := 3) rfl Try.underlying3
  obtain ⟨n4, e4, b4⟩ := hX.int (j := 4) rfl Try.underlying3
  obtain ⟨n5, e5, b5⟩ := hX.int (j := 5) rfl Try.underlying3
  obtain ⟨n6, e6, b6⟩ := hX.int (j := 6) rfl Try.underlying22
  obtain ⟨n7, e7, b7⟩ := hX.int (j := 7) rfl Try.underlying23
  obtain ⟨n8, e8, b8⟩ := hX.int (j := 8) rfl Try.underlying23
  obtain ⟨n9, e9, b9⟩ := hX.int (j := 9) rfl Try.underlying23
  obtain ⟨n10, e10, b10⟩ := hX.int (j := 10) rfl Try.underlying23
  have c0 := bounds_i64 b0
  have c1 := bounds_i64 b1
  have c2 := bounds_u32 b2
  have c3 := bounds_i64 b3
  have c4 := bounds_i64 b4
  have c5 := bounds_i64 b5
  have c6 := bounds_u32 b6
  have c7 := bounds_u64 b7
  have c8 := bounds_u64 b8
  have c9 := bounds_u64 b9
  have c10 := bounds_u64 b10
  obtain ⟨k2, rfl⟩ : ∃ k : Nat, n2 = k := ⟨n2.toNat, by omega⟩
  obtain ⟨k6, rfl⟩ : ∃ k : Nat, n6 = k := ⟨n6.toNat, by omega⟩
  obtain ⟨k7, rfl⟩ : ∃ k : Nat, n7 = k := ⟨n7.toNat, by omega⟩
  obtain ⟨k8, rfl⟩ : ∃ k : Nat, n8 = k := ⟨n8.toNat, by omega⟩
  obtain ⟨k9, rfl⟩ : ∃ k : Nat, n9 = k := ⟨n9.toNat, by omega⟩
  obtain ⟨k10, rfl⟩ : ∃ k : Nat, n10 = k := ⟨n10.toNat, by omega⟩
  refine ⟨⟨n0, n1, k2, n3, n4, n5, k6, ⟨k7, k8, k9, k10⟩⟩, ?_, ?_⟩
  · obtain ⟨l⟩ := cs
    have hl : l.length = 11 := hX.1
    replace e0 : l[0]? = _ := e0
    replace e1 : l[1]? = _ := e1
    replace e2 : l[2]? = _ := e2
    replace e3 : l[3]? = _ := e3
    replace e4 : l[4]? = _ := e4
    replace e5 : l[5]? = _ := e5
    replace e6 : l[6]? = _ := e6
    replace e7 : l[7]? = _ := e7
    replace e8 : l[8]? = _ := e8
    replace e9 : l[9]? = _ := e9
    replace e10 : l[10]? = _ := e10
    match l, hl with
    | [x0, x1, x2, x3, x4, x5, x6, x7, x8, x9, x10], _ => simp at e0 e1 e2 e3 e4 e5 e6 e7 e8 e9 e10; rw [e0, e1, e2, e3, e4, e5, e6, e7, e8, e9, e10]; rfl
  · exact ⟨⟨by simp only; omega, by simp only; omega⟩, ⟨by simp only; omega, by simp only; omega⟩, by simp only; omega, ⟨by simp only; omega, by simp only; omega⟩, ⟨by simp only; omega, by simp only; omega⟩, ⟨by simp only; omega, by simp only; omega⟩, by simp only; omega, ⟨by simp only; omega, by simp only; omega, by simp only; omega, by simp only; omega⟩⟩

theorem bits_open {H : Type} {enc : TypeId × Value → H} {r : Reach} {base : Nat} {W : World} {v : Value} {d : DataW H} {p : List MemPlace} (hv : Value.okWide Try.prog W r base 25 v) (h : DataW.Trod enc Try.prog W 0 (fun _ => true) true 25 v d p) (_ : ∀ n ∈ d.weights Try.prog 25, n ≤ reachBytes) :
    ∃ s : Bt, v = s.ag ∧ s.ok := by
  simp only [Value.okWide, Try.underlying25] at hv
  obtain ⟨cs, rfl, hsz, _⟩ := hv
  obtain ⟨fuel, hf⟩ := h
  have hX := leafy_of (n := 6) _ [23, 23, 23, 23] fuel _ _ (by kernel_rfl) hf
  obtain ⟨n0, e0, b0⟩ := hX.int (j := 0) rfl Try.underlying23
  obtain ⟨n1, e1, b1⟩ := hX.int (j := 1) rfl Try.underlying23
  obtain ⟨n2, e2, b2⟩ := hX.int (j := 2) rfl Try.underlying23
  obtain ⟨n3, e3, b3⟩ := hX.int (j := 3) rfl Try.underlying23
  have c0 := bounds_u64 b0; have c1 := bounds_u64 b1; have c2 := bounds_u64 b2; have c3 := bounds_u64 b3
  obtain ⟨k0, rfl⟩ : ∃ k : Nat, n0 = k := ⟨n0.toNat, by omega⟩
  obtain ⟨k1, rfl⟩ : ∃ k : Nat, n1 = k := ⟨n1.toNat, by omega⟩
  obtain ⟨k2, rfl⟩ : ∃ k : Nat, n2 = k := ⟨n2.toNat, by omega⟩
  obtain ⟨k3, rfl⟩ : ∃ k : Nat, n3 = k := ⟨n3.toNat, by omega⟩
  refine ⟨⟨k0, k1, k2, k3⟩, ?_, ?_⟩
  · obtain ⟨l⟩ := cs
    have hl : l.length = 4 := hX.1
    replace e0 : l[0]? = _ := e0
    replace e1 : l[1]? = _ := e1
    replace e2 : l[2]? = _ := e2
    replace e3 : l[3]? = _ := e3
    match l, hl with
    | [x0, x1, x2, x3], _ => simp at e0 e1 e2 e3; rw [e0, e1, e2, e3]; rfl
  · exact ⟨by simp only; omega, by simp only; omega, by simp only; omega, by simp only; omega⟩

end Go.Proofs.Ytbcgfojdlehnpaa
