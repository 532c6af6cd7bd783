/- The walks of the laws WireVars and WireParts. -/
import Derived.Test.YtibicjcnfdhffaaWireWorks
set_option linter.unusedSimpArgs false
set_option linter.unusedVariables false
namespace Go.Proofs.Ytibicjcnfdhffaa
open Go.RowKit

/-- Three calls, one behind the other. -/
theorem below3 {w w1 w2 w3 : World} (h1 : Below w.heap.size w w1) (h2 : Below w1.heap.size w1 w2) (h3 : Below w2.heap.size w2 w3) : Below w.heap.size w w3 :=
  h1.trans ((h2.mono h1.size).trans (h3.mono (Nat.le_trans h1.size h2.size)))

set_option maxHeartbeats 400000 in
theorem wireVars_walk (b : ByteArray) (v : Int) (w : World) (hb : b.size ≤ 140737488351232) (hv : 0 ≤ v ∧ v ≤ 18446744073709551615) :
    Calls Try.prog 4 #[.string b, .int .u64 v] w fun e w' => e = .returned (.bool true) ∧ Below w.heap.size w w' := by
  obtain ⟨v, rfl⟩ := Int.eq_ofNat_of_zero_le hv.1
  have hv' : Hid (v < 18446744073709551616) := by show v < _; omega
  clear hv
  go_enter Try.func4, Try.ntmps4
  go_wp2_with fail
  have hc : (b.extract 0 (min (b.size : Int) 1000).toNat).size ≤ 140737488355000 := by rw [ByteArray.size_extract]; omega
  generalize b.extract 0 (min (b.size : Int) 1000).toNat = c at *
  refine (putvar_any c v _ hv'.out hc).mono ?_
  rintro e w1 ⟨rfl, hb1⟩
  go_wp2_with fail
  refine (rputvar_any c v _ hv'.out hc).mono ?_
  rintro e w2 ⟨rfl, hb2⟩
  go_wp2_with fail
  refine (works_any _).mono ?_
  rintro e w3 ⟨rfl, hb3⟩
  go_wp2_with fail
  go_ret
  exact ⟨rfl, below3 hb1 hb2 hb3⟩

set_option maxHeartbeats 400000 in
theorem wireParts_walk (a b c : ByteArray) (w : World) (ha : a.size ≤ 140737488351232) (hb : b.size ≤ 140737488351232) (hc : c.size ≤ 140737488351232) :
    Calls Try.prog 5 #[.string a, .string b, .string c] w fun e w' => e = .returned (.bool true) ∧ Below w.heap.size w w' := by
  have ab : (a ++ b).size = a.size + b.size := ByteArray.size_append
  have bc : (b ++ c).size = b.size + c.size := ByteArray.size_append
  have abc : (a ++ b ++ c).size = a.size + b.size + c.size := by rw [ByteArray.size_append, ab]
  have H : Hid ((a ++ b).size ≤ 1125899906842624 ∧ (b ++ c).size ≤ 1125899906842624 ∧ (a ++ b ++ c).size ≤ 1125899906842624 ∧ a.size ≤ 1125899906842624 ∧ b.size ≤ 1125899906842624 ∧ c.size ≤ 1125899906842624) := by
    show _ ∧ _; omega
  clear ab bc abc
  go_enter Try.func5, Try.ntmps5
  go_wp2_with fail
  refine (works_any _).mono ?_
  rintro e w1 ⟨rfl, hb1⟩
  go_wp2_with fail
  have sz := fun (W : World) (o : Obj) => World.size_alloc W o
  refine (sum_lit w1 _ _ [a, b, c] _ rfl rfl rfl (by show 3 ≤ _; omega) (by intro s hs; have := H.out; simp at hs; rcases hs with rfl | rfl | rfl <;> omega)).mono ?_
  rintro e w' ⟨rfl, rfl⟩
  go_wp2_with fail
  have h2 := sum_lit _ _ (w1.heap.size + 1) [a ++ b ++ c] _ (World.size_alloc w1 (.cells #[.string a, .string b, .string c] 9)).symm rfl rfl (by show 1 ≤ _; omega) (by intro s hs; have := H.out; simp at hs; subst hs; omega)
  rw [sum_parts1] at h2
  refine h2.mono ?_
  rintro e w' ⟨rfl, rfl⟩
  clear h2
  go_wp2_with fail
  have h3 := sum_lit ((w1.alloc (.cells #[.string a, .string b, .string c] 9)).alloc (.cells #[.string (a ++ b ++ c)] 9)) _ (w1.heap.size + 1 + 1) [a ++ b, ⟨#[]⟩, c] _ (by rw [World.size_alloc, World.size_alloc]) rfl rfl (by show 3 ≤ _; omega) (by intro s hs; have := H.out; simp at hs; rcases hs with rfl | rfl | rfl <;> first | omega | exact Nat.zero_le _)
  refine h3.mono ?_
  rintro e w' ⟨rfl, rfl⟩
  clear h3
  go_wp2_with fail
  have h4 := sum_lit (((w1.alloc (.cells #[.string a, .string b, .string c] 9)).alloc (.cells #[.string (a ++ b ++ c)] 9)).alloc (.cells #[.string (a ++ b), .string ⟨#[]⟩, .string c] 9)) _ (w1.heap.size + 1 + 1 + 1) [a, b ++ c] _ (by rw [World.size_alloc, World.size_alloc, World.size_alloc]) rfl rfl (by show 2 ≤ _; omega) (by intro s hs; have := H.out; simp at hs; rcases hs with rfl | rfl <;> omega)
  rw [sum_parts2] at h4
  refine h4.mono ?_
  rintro e w' ⟨rfl, rfl⟩
  clear h4
  go_wp2_with fail
  go_ret
  have hs := hb1.size
  exact ⟨rfl, (((hb1.alloc hs _).alloc (by rw [sz]; omega) _).alloc (by rw [sz, sz]; omega) _).alloc (by rw [sz, sz, sz]; omega) _⟩

end Go.Proofs.Ytibicjcnfdhffaa
