/- Contract of the reference's four: four bytes of a number. -/
import Derived.Test.YtbcgfojdlehnpaaHdRE
import Derived.Test.YtbcgfojdlehnpaaHdRG
import Derived.Test.YtbcgfojdlehnpaaRegion3
set_option linter.unusedSimpArgs false
set_option linter.unusedVariables false
namespace Go.Proofs.Ytbcgfojdlehnpaa
open Go.RowKit Go.ChangeShapes Go.WideShapes

/-- 'string([]byte{..})', a literal of so many bytes: the run's equation. -/
theorem run_string_lit {P : Program} (w : World) (k : Nat) (hk : k = w.heap.size) (l : List UInt8) (cells : Array Value) (n : Nat) (src dst e : TypeId) (hs : P.underlying src = some (.slice e)) (he : P.underlying e = some (.int .u8)) (hd : P.underlying dst = some .string) (hc : (l.map byteV).toArray = cells) (hn : l.length = n) (hl : l.length ≤ maxLen) :
    (convert src dst (.slice (some ⟨k, 0, none⟩) n n)).run P (w.alloc (.cells cells e)) = .ok (.string (bs l)) (w.alloc (.cells cells e)) := by
  subst hk
  subst hc
  subst hn
  exact run_string_row (P := P) src dst hs he hd (row_lit w e l hl)
theorem four_bytes (n : Nat) : nb n 4 = [toU8 (n / 2 ^ 24), toU8 (n / 2 ^ 16), toU8 (n / 2 ^ 8), toU8 n] := by
  rw [nb_succ, nb_succ, nb_succ, nb_succ, nb_zero, show n / 256 / 256 / 256 = n / 2 ^ 24 from by omega, show n / 256 / 256 = n / 2 ^ 16 from by omega, show n / 256 = n / 2 ^ 8 from by omega]
  rfl
theorem four_any (n : Nat) (W : World) (hn : n < 4294967296) : Calls Try.prog 42 #[.int .u32 n] W fun e W' => e = .returned (.string (bs (nb n 4))) ∧ Below W.heap.size W W' := by
  have hcv := run_string_lit (P := Try.prog) W W.heap.size rfl (nb n 4) #[.int .u8 ((n : Int) / 16777216), .int .u8 ((n : Int) / 65536 % 256), .int .u8 ((n : Int) / 256 % 256), .int .u8 ((n : Int) % 256)] 4 40 9 5 Try.underlying40 Try.underlying5 Try.underlying9 (by
    rw [four_bytes]
    have h0 : byteV (toU8 (n / 2 ^ 24)) = .int .u8 ((n : Int) / 16777216) := by
      rw [byteV_small (show n / 2 ^ 24 < 256 by omega)]
      rfl
    simp only [List.map_cons, List.map_nil, h0]
    simp only [byteV_shr, byteV_low]
    rfl) (nb_len n 4) (by rw [nb_len]; decide)
  go_enter Try.func42, Try.ntmps42
  go_wp2_with fail
  go_returns
  exact ⟨rfl, (Below.refl _ _).alloc (Nat.le_refl _) _⟩

end Go.Proofs.Ytbcgfojdlehnpaa
