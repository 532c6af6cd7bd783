/- The laws' parts that came in, laid open. (Printed by mkmsx.py.) -/
import Derived.Test.YtickjmkkgcfkhaaMsT
import Derived.Test.YtickjmkkgcfkhaaLeaves
import Derived.Test.YtickjmkkgcfkhaaRowKit
set_option linter.unusedSimpArgs false
set_option linter.unusedVariables false
set_option maxRecDepth 100000
namespace Go.Proofs.Ytickjmkkgcfkhaa
open Go.ChangeShapes Go.WideShapes Go.ChangeAt Go.RowKit Go.Deep

theorem parts_open {H : Type} {enc : TypeId × Value → H} {r : Reach} {base : Nat} {W : World} {v : Value} {d : DataW H} {p : List MemPlace} (hv : Value.okWide Try.prog W r base 48 v) (h : DataW.Trod enc Try.prog W 0 (fun _ => true) true 48 v d p) (_ : ∀ n ∈ d.weights Try.prog 48, n ≤ reachBytes) :
    ∃ s : Pt, v = s.ag ∧ s.ok := by
  obtain ⟨cs, rfl, hsz⟩ := okWide_struct Try.underlying48 hv
  obtain ⟨fuel, hf⟩ := h
  have hX := leafy_of (n := 6) _ [5, 5, 5, 5, 5, 5, 22, 22, 22, 28, 28, 28, 28] fuel _ _ (by kernel_rfl) hf
  obtain ⟨n0, e0, b0⟩ := hX.int (j := 0) rfl Try.underlying5
  have c0 := bounds_u8 b0
  obtain ⟨k0, rfl⟩ : ∃ k : Nat, n0 = k := ⟨n0.toNat, by omega⟩
  obtain ⟨n1, e1, b1⟩ := hX.int (j := 1) rfl Try.underlying5
  have c1 := bounds_u8 b1
  obtain ⟨k1, rfl⟩ : ∃ k : Nat, n1 = k := ⟨n1.toNat, by omega⟩
  obtain ⟨n2, e2, b2⟩ := hX.int (j := 2) rfl Try.underlying5
  have c2 := bounds_u8 b2
  obtain ⟨k2, rfl⟩ : ∃ k : Nat, n2 = k := ⟨n2.toNat, by omega⟩
  obtain ⟨n3, e3, b3⟩ := hX.int (j := 3) rfl Try.underlying5
  have c3 := bounds_u8 b3
  obtain ⟨k3, rfl⟩ : ∃ k : Nat, n3 = k := ⟨n3.toNat, by omega⟩
  obtain ⟨n4, e4, b4⟩ := hX.int (j := 4) rfl Try.underlying5
  have c4 := bounds_u8 b4
  obtain ⟨k4, rfl⟩ : ∃ k : Nat, n4 = k := ⟨n4.toNat, by omega⟩
  obtain ⟨n5, e5, b5⟩ := hX.int (j := 5) rfl Try.underlying5
  have c5 := bounds_u8 b5
  obtain ⟨k5, rfl⟩ : ∃ k : Nat, n5 = k := ⟨n5.toNat, by omega⟩
  obtain ⟨n6, e6, b6⟩ := hX.int (j := 6) rfl Try.underlying22
  have c6 := bounds_u32 b6
  obtain ⟨k6, rfl⟩ : ∃ k : Nat, n6 = k := ⟨n6.toNat, by omega⟩
  obtain ⟨n7, e7, b7⟩ := hX.int (j := 7) rfl Try.underlying22
  have c7 := bounds_u32 b7
  obtain ⟨k7, rfl⟩ : ∃ k : Nat, n7 = k := ⟨n7.toNat, by omega⟩
  obtain ⟨n8, e8, b8⟩ := hX.int (j := 8) rfl Try.underlying22
  have c8 := bounds_u32 b8
  obtain ⟨k8, rfl⟩ : ∃ k : Nat, n8 = k := ⟨n8.toNat, by omega⟩
  obtain ⟨n9, e9, b9⟩ := hX.int (j := 9) rfl Try.underlying28
  have c9 := bounds_u64 b9
  obtain ⟨k9, rfl⟩ : ∃ k : Nat, n9 = k := ⟨n9.toNat, by omega⟩
  obtain ⟨n10, e10, b10⟩ := hX.int (j := 10) rfl Try.underlying28
  have c10 := bounds_u64 b10
  obtain ⟨k10, rfl⟩ : ∃ k : Nat, n10 = k := ⟨n10.toNat, by omega⟩
  obtain ⟨n11, e11, b11⟩ := hX.int (j := 11) rfl Try.underlying28
  have c11 := bounds_u64 b11
  obtain ⟨k11, rfl⟩ : ∃ k : Nat, n11 = k := ⟨n11.toNat, by omega⟩
  obtain ⟨n12, e12, b12⟩ := hX.int (j := 12) rfl Try.underlying28
  have c12 := bounds_u64 b12
  obtain ⟨k12, rfl⟩ : ∃ k : Nat, n12 = k := ⟨n12.toNat, by omega⟩
  refine ⟨⟨k0, k1, k2, k3, k4, k5, k6, k7, k8, ⟨k9, k10, k11, k12⟩⟩, ?_, ?_⟩
  · obtain ⟨l⟩ := cs
    have hl : l.length = 13 := hX.1
    replace e0 : l[0]? = _ := e0
    replace e1 : l[1]? = _ := e1
    replace e2 : l[2]? = _ := e2
    replace e3 : l[3]? = _ := e3
    replace e4 : l[4]? = _ := e4
    replace e5 : l[5]? = _ := e5
    replace e6 : l[6]? = _ := e6
    replace e7 : l[7]? = _ := e7
    replace e8 : l[8]? = _ := e8
    replace e9 : l[9]? = _ := e9
    replace e10 : l[10]? = _ := e10
    replace e11 : l[11]? = _ := e11
    replace e12 : l[12]? = _ := e12
    match l, hl with
    | [x0, x1, x2, x3, x4, x5, x6, x7, x8, x9, x10, x11, x12], _ => simp at e0 e1 e2 e3 e4 e5 e6 e7 e8 e9 e10 e11 e12; rw [e0, e1, e2, e3, e4, e5, e6, e7, e8, e9, e10, e11, e12]; rfl
  · exact ⟨by simp only; omega, by simp only; omega, by simp only; omega, by simp only; omega, by simp only; omega, by simp only; omega, by simp only; omega, by simp only; omega, by simp only; omega, ⟨by simp only; omega, by simp only; omega, by simp only; omega, by simp only; omega⟩⟩

end Go.Proofs.Ytickjmkkgcfkhaa
