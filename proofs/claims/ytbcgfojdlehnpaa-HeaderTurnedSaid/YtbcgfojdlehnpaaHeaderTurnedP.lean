/- The walk of the law HeaderTurned. -/
import Derived.Test.YtbcgfojdlehnpaaHeaderBackW
set_option linter.unusedSimpArgs false
set_option linter.unusedVariables false
namespace Go.Proofs.Ytbcgfojdlehnpaa
open Go.RowKit Go.ChangeShapes Go.WideShapes

/-- Bytes with one turned. -/
def turnB (E : ByteArray) (i : Nat) (b : UInt8) : ByteArray := bs (E.data.toList.set i (E.data.toList.getD i 0 ^^^ b))
theorem turnB_size (E : ByteArray) (i : Nat) (b : UInt8) : (turnB E i b).size = E.size := by rw [turnB, bs_size, List.length_set, size_eq]
theorem turnB_ne {E : ByteArray} {i : Nat} {b : UInt8} (hi : i < E.size) (hb : b ≠ 0) : turnB E i b ≠ E := by
  intro h
  have h1 : (turnB E i b).data.toList = E.data.toList := by rw [h]
  rw [turnB, bs_toList] at h1
  have hl : i < E.data.toList.length := by rw [size_eq]; exact hi
  have h2 := congrArg (fun l => l[i]?) h1
  simp only [List.getElem?_set_self hl, List.getD_eq_getElem?_getD, List.getElem?_eq_getElem hl, Option.getD_some, Option.some.injEq] at h2
  have h3 : b = 0 := by
    have h4 : (E.data.toList[i] ^^^ b) ^^^ E.data.toList[i] = E.data.toList[i] ^^^ E.data.toList[i] := by rw [h2]
    rw [UInt8.xor_comm E.data.toList[i] b, UInt8.xor_assoc, UInt8.xor_self, UInt8.xor_zero] at h4
    exact h4
  exact hb h3
/-- What is read of turned bytes: refused, or another header, told by the same bytes. -/
theorem turned_read {g : Hd} (hc : g.chk = true) {s : ByteArray} (hs : s ≠ g.enc) (h2 : 2 ≤ s.size) : (decHE s = 0 ∧ (decH s).chk = true ∧ (decH s).ok ∧ (decH s).enc = s ∧ decH s ≠ g) ∨ (decHE s ≠ 0 ∧ (decHE s = 4 ∨ decHE s = 5) ∧ decH s = Hd.zero) := by
  by_cases h : decHE s = 0
  · obtain ⟨h1, h3, h4, _⟩ := encH_decH h
    exact .inl ⟨h, h1, h4, h3, fun e => hs (by rw [← h3, e])⟩
  · refine .inr ⟨h, ?_, ?_⟩
    · unfold decHE at h ⊢
      split
      · split
        · split
          · rename_i a b c; rw [if_pos a, if_pos b, if_pos c] at h; exact absurd rfl h
          · exact .inl rfl
        · rename_i b
          unfold openE at b ⊢
          rw [if_neg (by omega)] at b ⊢
          split
          · rename_i q; rw [if_pos q] at b; exact absurd rfl b
          · exact .inr rfl
      · exact .inl rfl
    · unfold decH
      rw [if_neg]
      rintro ⟨a, b, c⟩
      exact h (by rw [decHE, if_pos a, if_pos b, if_pos c])

end Go.Proofs.Ytbcgfojdlehnpaa
