/- The tally's laws: what came in. -/
import Derived.Test.YtnfdkgmikijbgaaTallyH
import Derived.Test.YtnfdkgmikijbgaaAgg
import Derived.OpenShut
set_option linter.unusedSimpArgs false
set_option linter.unusedVariables false
namespace Go.Proofs.Ytnfdkgmikijbgaa
open Go.RowKit Go.ChangeShapes Go.WideShapes Go.ChangeAt

theorem marks_open {H : Type} {enc : TypeId × Value → H} {r : Reach} {base : Nat} {W : World} {v : Value} {d : DataW H} {p : List MemPlace} (hv : Value.okWide Try.prog W r base 22 v) (h : DataW.Trod enc Try.prog W 0 (fun _ => true) true 22 v d p) (_ : ∀ n ∈ d.weights Try.prog 22, n ≤ reachBytes) :
    ∃ x : Option Addr × Nat × List Mk, v = .slice x.1 x.2.2.length x.2.1 ∧ StructsAt W x.1 11 (x.2.2.map fun m => m.cells.toList) ∧ (∀ m ∈ x.2.2, m.ok) ∧ x.2.2.length ≤ maxLen := by
  obtain ⟨a0, len, cap, rfl⟩ := okWide_slice Try.underlying22 hv
  obtain ⟨rows, hl, hf, hc, _, hlc, hcm, _⟩ := slice_rows (n := 5) (ts := [5, 5, 4, 27, 27, 27, 27, 27, 27, 27, 27]) Try.underlying22 (by kernel_rfl) (by kernel_rfl) h
  obtain ⟨xs, rfl, hok⟩ := all_form (f := fun m : Mk => m.cells.toList) (Q := Mk.ok) rows (by
    intro i row hr
    obtain ⟨X, hX, _⟩ := hf i row hr
    obtain ⟨n0, e0, b0⟩ := hX.int (j := 0) rfl Try.underlying5
    obtain ⟨n1, e1, b1⟩ := hX.int (j := 1) rfl Try.underlying5
    obtain ⟨n2, e2⟩ := hX.bool (j := 2) rfl Try.underlying4
    obtain ⟨n3, e3, b3⟩ := hX.int (j := 3) rfl Try.underlying27
    obtain ⟨n4, e4, b4⟩ := hX.int (j := 4) rfl Try.underlying27
    obtain ⟨n5, e5, b5⟩ := hX.int (j := 5) rfl Try.underlying27
    obtain ⟨n6, e6, b6⟩ := hX.int (j := 6) rfl Try.underlying27
    obtain ⟨n7, e7, b7⟩ := hX.int (j := 7) rfl Try.underlying27
    obtain ⟨n8, e8, b8⟩ := hX.int (j := 8) rfl Try.underlying27
    obtain ⟨n9, e9, b9⟩ := hX.int (j := 9) rfl Try.underlying27
    obtain ⟨n10, e10, b10⟩ := hX.int (j := 10) rfl Try.underlying27
    have c3 := bounds_u64 b3; have c4 := bounds_u64 b4; have c5 := bounds_u64 b5; have c6 := bounds_u64 b6
    have c7 := bounds_u64 b7; have c8 := bounds_u64 b8; have c9 := bounds_u64 b9; have c10 := bounds_u64 b10
    obtain ⟨k3, rfl⟩ : ∃ k : Nat, n3 = k := ⟨n3.toNat, by omega⟩
    obtain ⟨k4, rfl⟩ : ∃ k : Nat, n4 = k := ⟨n4.toNat, by omega⟩
    obtain ⟨k5, rfl⟩ : ∃ k : Nat, n5 = k := ⟨n5.toNat, by omega⟩
    obtain ⟨k6, rfl⟩ : ∃ k : Nat, n6 = k := ⟨n6.toNat, by omega⟩
    obtain ⟨k7, rfl⟩ : ∃ k : Nat, n7 = k := ⟨n7.toNat, by omega⟩
    obtain ⟨k8, rfl⟩ : ∃ k : Nat, n8 = k := ⟨n8.toNat, by omega⟩
    obtain ⟨k9, rfl⟩ : ∃ k : Nat, n9 = k := ⟨n9.toNat, by omega⟩
    obtain ⟨k10, rfl⟩ : ∃ k : Nat, n10 = k := ⟨n10.toNat, by omega⟩
    refine ⟨⟨n0, n1, n2, ⟨k3, k4, k5, k6⟩, ⟨k7, k8, k9, k10⟩⟩, ⟨bounds_u8 b0, bounds_u8 b1, ⟨?_, ?_, ?_, ?_⟩, ⟨?_, ?_, ?_, ?_⟩⟩, ?_⟩
    any_goals (simp only; omega)
    have hl := hX.1
    match row, hl with
    | [x0, x1, x2, x3, x4, x5, x6, x7, x8, x9, x10], _ => simp at e0 e1 e2 e3 e4 e5 e6 e7 e8 e9 e10; rw [e0, e1, e2, e3, e4, e5, e6, e7, e8, e9, e10]; rfl)
  rw [List.length_map] at hl
  refine ⟨(a0, cap, xs), by rw [← hl], hc, hok, by simp only; omega⟩

theorem Mk.dn_ok {m : Mk} (h : m.ok) (sa : Option Addr) (sc : Nat) : (m.dn sa sc).ok := by
  obtain ⟨_, ⟨h1, h2⟩, h3, h4⟩ := h
  exact ⟨by simp only [Mk.dn]; omega, h3, h4⟩
/-- A step's counts. -/
def Mk.cn (m : Mk) : Cn := (m.dn none 0).of
theorem Mk.cn_eq (m : Mk) (sa : Option Addr) (sc : Nat) : (m.dn sa sc).of = m.cn := rfl
/-- Its router. -/
def Mk.r (m : Mk) : Nat := 1 + m.rt.toNat % 24
theorem Mk.r_le (m : Mk) : 1 ≤ m.r ∧ m.r ≤ 24 := by unfold Mk.r; omega

theorem At_is (t r : Nat) (B : Nat) (L : List Cn) (c : Cn) (hc : L.getD r default = c) (W : World) (H : TAt W B t L) (h1 : 1 ≤ r) (h2 : r ≤ 24) :
    Calls Try.prog 10 #[.pointer (some ⟨t, 0, none⟩), .int .i64 r] W fun e W' => e = .returned (.tuple #[.agg #[.int .u64 c.got, .int .u64 c.loc, .int .u64 c.cop, .int .u64 c.los, .int .u64 c.exp, .int .u64 c.bad], .int .i64 0]) ∧ Below W.heap.size W W' := by
  have := At_any t r B L W H h1 h2
  rw [hc] at this
  exact this

end Go.Proofs.Ytnfdkgmikijbgaa
