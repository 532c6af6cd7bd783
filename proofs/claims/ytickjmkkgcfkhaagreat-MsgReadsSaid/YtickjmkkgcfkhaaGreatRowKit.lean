/- What the frames round the walks share. No program is in sight. -/
import Derived.Test.YtickjmkkgcfkhaaGreatBase
import Derived.ProofKit
import Derived.SliceStrings
import Derived.OpenShut
import Derived.ShutString
import Derived.ChangeOld
import Derived.Below
import Derived.SizedLaws
set_option linter.unusedSimpArgs false
set_option linter.unusedVariables false
set_option maxRecDepth 100000
namespace Go.Proofs.YtickjmkkgcfkhaaGreat
open Go.ChangeShapes Go.WideShapes Go.ChangeAt Go.RowKit

theorem size_of_sized {s : ByteArray} (h : s.data.toList.length ≤ reachBytes) : s.size ≤ 140737488351232 := by
  have e : s.data.toList.length = s.size := by cases s; rfl
  rw [e] at h
  exact h

theorem weightsAll_mem {H : Type} {P : Program} {e : TypeId} : ∀ {l : List (DataW H)} {d : DataW H}, d ∈ l → ∀ n ∈ d.weights P e, n ∈ DataW.weightsAll P e l
  | x :: l, d, h, n, hn => by
    rw [DataW.weightsAll, List.mem_append]
    rcases List.mem_cons.1 h with rfl | h
    · exact .inl hn
    · exact .inr (weightsAll_mem h n hn)
  | [], d, h, _, _ => by cases h

/-- A slice of strings that came in: its elements, each of a size that the form's reach bears. -/
theorem strs_of {H : Type} {enc : TypeId × Value → H} {P : Program} {t e : TypeId} {W : World} {a0 : Option Addr} {len cap : Nat} {d0 : DataW H} {p0 : List MemPlace} {ts : List TypeId} {ds : List (DataW H)} {j : Nat}
    (ht : P.underlying t = some (.slice e)) (he : P.underlying e = some .string) (hc : P.cellsOf e = 1) (hby : P.bytesOf e = 16) (htj : ts[j]? = some t) (hdj : ds[j]? = some d0)
    (h : DataW.Trod enc P W 0 (fun _ => true) true t (.slice a0 len cap) d0 p0) (hsz : (DataW.weightsEach P ts ds).all (· ≤ reachBytes) = true) :
    ∃ ss : List ByteArray, ss.length = len ∧ Strs W a0 ss ∧ ss.length ≤ 140737488351232 ∧ ∀ s ∈ ss, s.size ≤ 140737488351232 := by
  obtain ⟨fuel, hf⟩ := h
  rcases open_strings ht he hc hf with ⟨hcs, _⟩ | ⟨x, l, c, ss, hcs, _, hl, hm, hlen, hx, hcell, _⟩
  · simp [Value.cells] at hcs
    obtain ⟨rfl, rfl, rfl⟩ := hcs
    exact ⟨[], rfl, fun k hk => absurd hk (by simp), by simp, by simp⟩
  · simp [Value.cells] at hcs
    obtain ⟨rfl, rfl, rfl⟩ := hcs
    simp only [Prod.mk.injEq] at hx
    obtain ⟨rfl, _⟩ := hx
    have hcap : ss.length = cap := by simpa using hlen
    have hw := sized_slice hsz htj hdj ht
    have htk : (ss.take len).length = len := by rw [List.length_take]; omega
    refine ⟨ss.take len, htk, fun k hk => ?_, ?_, fun s hs => ?_⟩
    · refine ⟨x, rfl, ?_⟩
      have h1 := hcell k (by omega)
      rw [h1, List.getD_eq_getElem?_getD, List.getElem?_eq_getElem (by omega), List.getElem_take]
      rfl
    · rw [hby] at hw
      simp only [strs, List.length_map, reachBytes] at hw
      omega
    · have hmem : (DataW.lit (.string s.data.toList) : DataW H) ∈ strs (ss.take len) := List.mem_map.2 ⟨s, hs, rfl⟩
      have := List.all_eq_true.1 hsz s.data.toList.length (DataW.weights_mem_each htj hdj _ (by
        simp only [DataW.weights, ht, List.mem_cons, List.mem_append]
        exact .inr (.inl (weightsAll_mem hmem _ (by simp [DataW.weights])))))
      exact size_of_sized (by simpa using this)

end Go.Proofs.YtickjmkkgcfkhaaGreat
