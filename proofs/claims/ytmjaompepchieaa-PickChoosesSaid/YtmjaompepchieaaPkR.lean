/- Contract of the rotation, of slices' sort. -/
import Derived.Test.YtmjaompepchieaaPkN
set_option linter.unusedSimpArgs false
set_option linter.unusedVariables false
namespace Go.Proofs.Ytmjaompepchieaa
open Go.Shelf Go.RowKit Go.Sort

theorem Led.comp {w0 w w' : World} {g off A B : Nat} {d e f : Array Int} {φ ψ χ : Nat → Nat} (h : Led w0 g off d φ A B e w) (h2 : Led w0 g off e ψ A B f w') (hc : ∀ k, φ (ψ k) = χ k) : Led w0 g off d χ A B f w' := ⟨h.com.comp h2.com hc, permIn_trans _ _ _ _ _ h.per h2.per, h2.sw⟩
def RoR (w0 : World) (g off : Nat) (d : Array Int) (a m b : Nat) (vi vj : Value) (wr : World) : Prop := ∃ (i j : Nat) (e : Array Int) (φ : Nat → Nat), vi = .int .i64 i ∧ vj = .int .i64 j ∧ 0 < i ∧ i ≤ m - a ∧ 0 < j ∧ m + j ≤ b ∧ Led w0 g off d φ a b e wr ∧ ∀ k, φ (rotIx (m - i) m (m + j) k) = rotIx a m b k

set_option maxRecDepth 1000000 in
set_option maxHeartbeats 6400000 in
theorem rotate_any (g off cap a m b : Nat) (d0 d : Array Int) (w0 w : World) (fv : Value) (R : Row1 (Value.int .i64) w0 g off d0) (hs : d0.size = d.size) (S : SW (Value.int .i64) w0 g off d w) (ham : a < m) (hmb : m < b) (hB : b ≤ d.size) (hsz : d.size ≤ 1000) :
    Calls Try.prog 40 #[.slice (some ⟨g, off, none⟩) d.size cap, .int .i64 a, .int .i64 m, .int .i64 b, fv] w fun x w' => x = .returned (.tuple #[]) ∧ ∃ f, Led w0 g off d (rotIx a m b) a b f w' := by
  obtain ⟨M, hM⟩ : ∃ M, M = d.size := ⟨_, rfl⟩
  have HSW := Lib.hid (show ∀ (e : Array Int) (φ : Nat → Nat) (W : World) (a' b' n : Nat), Led w0 g off d φ a b e W → a' + n ≤ b' → a ≤ a' → b' + n ≤ b → Calls Try.prog 41 #[.slice (some ⟨g, off, none⟩) M cap, .int .i64 a', .int .i64 b', .int .i64 n, fv] W fun x w' => x = .returned (.tuple #[]) ∧ ∃ f, Led w0 g off e (swIx a' b' n) a b f w' from fun e φ W a' b' n hl h1 h2 h3 => by
    have := swap_any g off cap a' b' n a b d0 e w0 W fv R (by rw [hl.size]; exact hs) hl.sw h1 h2 h3 (by rw [hl.size]; exact hB) (by rw [hl.size]; exact hsz)
    rwa [hl.size, ← hM] at this)
  have H0 := Lib.hid (show RoR w0 g off d a m b (.int .i64 ((m : Int) - (a : Int))) (.int .i64 ((b : Int) - (m : Int))) w from ⟨m - a, b - m, d, fun k => k, by congr 1; omega, by congr 1; omega, by omega, Nat.le_refl _, by omega, by omega, ⟨Comes.refl d fun _ => rfl, permIn_refl _ _ _, S⟩, fun k => by rw [show m - (m - a) = a by omega, show m + (b - m) = b by omega]⟩)
  rw [← hM] at hsz hB ⊢
  clear S hs R hM
  go_enter Try.func40, Try.ntmps40
  go_wp2_with fail
  go_loopw [10, 11] (fun i j wr => RoR w0 g off d a m b i j wr) (fun i j _ => (intOf i).toNat + (intOf j).toNat)
  case atStart => exact H0.out
  case round =>
    clear H0
    obtain ⟨i, j, e, φ, rfl, rfl, hi0, hi1, hj0, hj1, hL, hφ⟩ := hrel
    obtain ⟨p, hp⟩ : ∃ p, p = m - i := ⟨_, rfl⟩
    have zp : (m : Int) - (i : Int) = (p : Int) := by omega
    by_cases hij : i = j
    · subst hij
      have HC := Lib.hid (HSW.out e φ wr (m - i) m i hL (by omega) (by omega) (by omega))
      rw [← hp] at HC
      have HF := Lib.hid (show ∀ f w', Led w0 g off e (swIx p m i) a b f w' → ∃ f, Led w0 g off d (rotIx a m b) a b f w' from fun f w' h => ⟨f, hL.comp h fun k => by rw [hp, rot_even (by omega)]; exact hφ k⟩)
      clear hL hφ hp
      go_wp2_with fail
      refine HC.out.mono ?_
      rintro x w1 ⟨rfl, f, hf⟩
      have HG := Lib.hid (HF.out f w1 hf)
      clear hf
      go_wp2_with fail
      go_end0
      exact ⟨rfl, HG.out⟩
    · have hne : ((i : Int) != (j : Int)) = true := by simp; omega
      by_cases hgt : j < i
      · have hd : decide ((i : Int) > (j : Int)) = true := decide_eq_true (by omega)
        have HC := Lib.hid (HSW.out e φ wr (m - i) m j hL (by omega) (by omega) (by omega))
        rw [← hp] at HC
        have HF := Lib.hid (show ∀ f w', Led w0 g off e (swIx p m j) a b f w' → RoR w0 g off d a m b (.int .i64 ((i : Int) - (j : Int))) (.int .i64 j) w' from fun f w' h => ⟨i - j, j, f, _, by congr 1; omega, rfl, by omega, by omega, hj0, hj1, hL.comp h fun k => rfl, fun k => by
          rw [hp, rot_left (by omega) hgt]; exact hφ k⟩)
        clear hL hφ hp
        go_wp2_with fail
        refine HC.out.mono ?_
        rintro x w1 ⟨rfl, f, hf⟩
        have HG := Lib.hid (HF.out f w1 hf)
        clear hf
        go_wp2_with fail
        go_roundw
        case rel => exact HG.out
        case measure => simp [intOf]; omega
      · have hd : decide ((i : Int) > (j : Int)) = false := decide_eq_false (by omega)
        obtain ⟨q, hq⟩ : ∃ q, q = m + j - i := ⟨_, rfl⟩
        have zq : (m : Int) + (j : Int) - (i : Int) = (q : Int) := by omega
        have HC := Lib.hid (HSW.out e φ wr (m - i) (m + j - i) i hL (by omega) (by omega) (by omega))
        rw [← hp, ← hq] at HC
        have HF := Lib.hid (show ∀ f w', Led w0 g off e (swIx p q i) a b f w' → RoR w0 g off d a m b (.int .i64 i) (.int .i64 ((j : Int) - (i : Int))) w' from fun f w' h => ⟨i, j - i, f, _, rfl, by congr 1; omega, hi0, by omega, by omega, by omega, hL.comp h fun k => rfl, fun k => by
          rw [hp, hq, rot_right (by omega) (by omega)]; exact hφ k⟩)
        clear hL hφ hp hq
        go_wp2_with fail
        refine HC.out.mono ?_
        rintro x w1 ⟨rfl, f, hf⟩
        have HG := Lib.hid (HF.out f w1 hf)
        clear hf
        go_wp2_with fail
        go_roundw
        case rel => exact HG.out
        case measure => simp [intOf]; omega

end Go.Proofs.Ytmjaompepchieaa
