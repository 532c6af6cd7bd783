/- Contracts of the exchange of two blocks and of the rotation, of slices' sort. -/
import Derived.Test.YtmjaompepchieaaPkM
import Derived.Test.YtmjaompepchieaaPkF
set_option linter.unusedSimpArgs false
set_option linter.unusedVariables false
namespace Go.Proofs.Ytmjaompepchieaa
open Go.Shelf Go.RowKit Go.Sort

/-- What exchanges leave: the row holds f, which is d with its places led by φ, all of them within. -/
structure Led (w0 : World) (g off : Nat) (d : Array Int) (φ : Nat → Nat) (A B : Nat) (f : Array Int) (w : World) : Prop where
  com : Comes φ d f
  per : PermIn A B d f
  sw : SW (Value.int .i64) w0 g off f w
theorem Led.size {w0 w : World} {g off A B : Nat} {d f : Array Int} {φ : Nat → Nat} (h : Led w0 g off d φ A B f w) : f.size = d.size := h.com.1
theorem Led.step {w0 w : World} {g off A B : Nat} {d0 d f : Array Int} {φ χ : Nat → Nat} (h : Led w0 g off d φ A B f w) (R : Row1 (Value.int .i64) w0 g off d0) {i j : Nat} (hi : A ≤ i ∧ i < B) (hj : A ≤ j ∧ j < B) (hB : B ≤ d.size) (hij : i ≠ j)
    (hc : ∀ k, φ (if k = i then j else if k = j then i else k) = χ k) {x y : Int} (hx : x = f[i]!) (hy : y = f[j]!) : Led w0 g off d χ A B (swp f i j) ((w.setCell ⟨g, off + i, none⟩ (.int .i64 y)).setCell ⟨g, off + j, none⟩ (.int .i64 x)).drew := by
  have hs := h.size
  refine ⟨h.com.swap (by omega) (by omega) hij hc, permIn_trans _ _ _ _ _ h.per (swp_permIn f A B i j hi.1 hi.2 hj.1 hj.2 (by omega)), ?_⟩
  rw [hx, hy]
  exact h.sw.swapped R i j (by omega) (by omega)

theorem mixed_ : Try.prog.follows Departure.mixedOrders = true := by kernel_rfl
def SwR (w0 : World) (g off : Nat) (d : Array Int) (a b n A B : Nat) (i : Value) (wr : World) : Prop := ∃ (k : Nat) (f : Array Int), i = .int .i64 k ∧ k ≤ n ∧ Led w0 g off d (swIx a b k) A B f wr

set_option maxRecDepth 1000000 in
set_option maxHeartbeats 6400000 in
theorem swap_any (g off cap a b n A B : Nat) (d0 d : Array Int) (w0 w : World) (fv : Value) (R : Row1 (Value.int .i64) w0 g off d0) (hs : d0.size = d.size) (S : SW (Value.int .i64) w0 g off d w) (hab : a + n ≤ b) (hA : A ≤ a) (hbB : b + n ≤ B) (hB : B ≤ d.size) (hsz : d.size ≤ 1000) :
    Calls Try.prog 41 #[.slice (some ⟨g, off, none⟩) d.size cap, .int .i64 a, .int .i64 b, .int .i64 n, fv] w fun x w' => x = .returned (.tuple #[]) ∧ ∃ f, Led w0 g off d (swIx a b n) A B f w' := by
  have S0 : Aside (SwR w0 g off d a b n A B (.int .i64 0) w) := ⟨0, d, rfl, Nat.zero_le _, Comes.refl d (sw_zero a b), permIn_refl _ _ _, S⟩
  clear S
  obtain ⟨m, hm⟩ : ∃ m, m = d.size := ⟨_, rfl⟩
  have HM : Aside (m = d.size) := hm
  rw [← hm] at hs hB hsz ⊢
  clear hm
  have mixed := mixed_
  go_enter Try.func41, Try.ntmps41
  go_wp2_with fail
  go_loopw [10] (fun i wr => SwR w0 g off d a b n A B i wr) (fun i _ => n - (intOf i).toNat)
  case atStart => exact S0
  case round =>
    clear S0
    obtain ⟨k, f, rfl, hk, SK⟩ := hrel
    by_cases hlt : k < n
    · have hlz : decide ((k : Int) < (n : Int)) = true := decide_eq_true (by omega)
      obtain ⟨i, hi⟩ : ∃ i, i = a + k := ⟨_, rfl⟩
      obtain ⟨j, hj⟩ : ∃ j, j = b + k := ⟨_, rfl⟩
      have zi : (a : Int) + (k : Int) = (i : Int) := by omega
      have zj : (b : Int) + (k : Int) = (j : Int) := by omega
      have bi : i < m := by omega
      have bj : j < m := by omega
      have hfs : f.size = m := SK.size.trans HM.symm
      obtain ⟨x, hx⟩ : ∃ x, x = f[i]! := ⟨_, rfl⟩
      obtain ⟨y, hy⟩ : ∃ y, y = f[j]! := ⟨_, rfl⟩
      have S3 : Aside (SwR w0 g off d a b n A B (.int .i64 ((k : Int) + 1)) ((wr.setCell ⟨g, off + i, none⟩ (.int .i64 y)).setCell ⟨g, off + j, none⟩ (.int .i64 x)).drew) :=
        ⟨k + 1, _, by rw [show (k : Int) + 1 = ((k + 1 : Nat) : Int) from by simp], by omega, SK.step R (i := i) (j := j) ⟨by omega, by omega⟩ ⟨by omega, by omega⟩ (by rw [← HM]; exact hB) (by omega) (fun q => by rw [hi, hj]; exact sw_step (by omega) q) hx hy⟩
      have ca := SK.sw.c1 R (by omega) i (by omega)
      have cb := SK.sw.c1 R (by omega) j (by omega)
      have fa := SK.sw.f1 R (by omega) i (by omega)
      have fb := SK.sw.f1 R (by omega) j (by omega)
      obtain ⟨u, cc⟩ := SK.sw.c2 R (by omega) i j (by omega) (by omega) (.int .i64 y)
      rw [← hx] at ca
      rw [← hy] at cb
      clear SK hx hy hi hj hfs
      go_wp2_with fail
      go_big_region_o
      clear ca cb cc fa fb
      generalize ((wr.setCell ⟨g, off + i, none⟩ (.int .i64 y)).setCell ⟨g, off + j, none⟩ (.int .i64 x)).drew = w3 at S3 ⊢
      go_wp2_with fail
      go_roundw
      case rel => exact S3
      case measure => simp [intOf]; omega
    · obtain rfl : k = n := by omega
      go_wp2_with fail
      go_end0
      exact ⟨rfl, f, SK⟩

end Go.Proofs.Ytmjaompepchieaa
