/- Contract of the stable sort of fewer than 40. -/
import Derived.Test.YtmjaompepchieaaPkZ
set_option linter.unusedSimpArgs false
set_option linter.unusedVariables false
namespace Go.Proofs.Ytmjaompepchieaa
open Go.Shelf Go.RowKit Go.Sort

def StA (W : World) (g off : Nat) (d : Array Int) (a b : Value) (wr : World) : Prop := (a = .int .i64 0 ∧ b = .int .i64 20 ∧ wr = W) ∨ (a = .int .i64 20 ∧ b = .int .i64 40 ∧ SW (Value.int .i64) W g off d wr)
def StB (W : World) (g off n : Nat) (cf : Int → Int → Int) (d d2 : Array Int) (c : Value) (wr : World) : Prop := (c = .int .i64 20 ∧ SW (Value.int .i64) W g off d2 wr) ∨ (c = .int .i64 40 ∧ ∃ f, PermIn 0 n d f ∧ SortedIn (ltOf cf) 0 n f ∧ SW (Value.int .i64) W g off f wr)
def StC (W : World) (g off : Nat) (d2 : Array Int) (a b : Value) (wr : World) : Prop := a = .int .i64 0 ∧ b = .int .i64 40 ∧ SW (Value.int .i64) W g off d2 wr

set_option maxRecDepth 100000 in
set_option maxHeartbeats 3200000 in
theorem stable_mid (e : Nat) (p g off cap : Nat) (d : Array Int) (W : World) (he : e < 4294967296) (hcmp : CmpLays1 Try.prog 28 #[.pointer (some ⟨p, 0, none⟩)] (Value.int .i64) (cfr e) g off d.size W)
    (hH : Holds (Value.int .i64) W g off d) (hg : g < W.heap.size) (hn : d.size < 40) (hn2 : 20 ≤ d.size) :
    Calls Try.prog 35 #[.slice (some ⟨g, off, none⟩) d.size cap, .int .i64 d.size, .func (.func 28) #[] #[.pointer (some ⟨p, 0, none⟩)]] W fun x W' =>
      x = .returned (.tuple #[]) ∧ ∃ d', PermIn 0 d.size d d' ∧ SortedIn (ltOf (cfr e)) 0 d.size d' ∧ SW (Value.int .i64) W g off d' W' := by
  have R : Row1 (Value.int .i64) W g off d := ⟨fun _ => rfl, hH, hg⟩
  have hS := swo_r e
  obtain ⟨lt, hlt⟩ : ∃ lt, lt = ltOf (cfr e) := ⟨_, rfl⟩
  obtain ⟨n, hnn⟩ : ∃ n, n = d.size := ⟨_, rfl⟩
  obtain ⟨d1, hd1⟩ : ∃ d1, d1 = Sort.insertionSort (ltOf (cfr e)) d 0 20 := ⟨_, rfl⟩
  obtain ⟨k1, k2⟩ := insertionSort_holds (lt := ltOf (cfr e)) hS d 0 20 (by omega) (by omega)
  rw [← hd1] at k1 k2
  have hs1 : d1.size = n := by rw [k1.1, hnn]
  obtain ⟨d2, hd2⟩ : ∃ d2, d2 = Sort.insertionSort (ltOf (cfr e)) d1 20 n := ⟨_, rfl⟩
  obtain ⟨k3, k4⟩ := insertionSort_holds (lt := ltOf (cfr e)) hS d1 20 n (by omega) (by omega)
  rw [← hd2] at k3 k4
  have hs2 : d2.size = n := by rw [k3.1, hs1]
  have HI1 := Lib.hid (show Calls Try.prog 38 #[.slice (some ⟨g, off, none⟩) n cap, .int .i64 0, .int .i64 20, fcmp p] W fun x w' => x = .returned (.tuple #[]) ∧ SW (Value.int .i64) W g off d1 w' by
    have := Ytmjaompepchieaa.ins_any (Value.int .i64) (cfr e) 28 #[.pointer (some ⟨p, 0, none⟩)] g off cap 0 20 d d W W enter_rankcmp hcmp R rfl (SW.start hH) (by omega) (by omega) (by omega)
    rw [← hd1, ← hnn] at this
    exact this)
  have HI2 := Lib.hid (show ∀ w, SW (Value.int .i64) W g off d1 w → Calls Try.prog 38 #[.slice (some ⟨g, off, none⟩) n cap, .int .i64 20, .int .i64 n, fcmp p] w fun x w' => x = .returned (.tuple #[]) ∧ SW (Value.int .i64) W g off d2 w' from fun w hw => by
    have := Ytmjaompepchieaa.ins_any (Value.int .i64) (cfr e) 28 #[.pointer (some ⟨p, 0, none⟩)] g off cap 20 n d d1 W w enter_rankcmp hcmp R (by rw [hs1, hnn]) hw (by omega) (by omega) (by omega)
    rw [← hd2, hs1] at this
    exact this)
  have hP : PermIn 0 n d d2 := permIn_trans _ _ _ _ _ (permIn_mono d d1 0 20 0 n (Nat.le_refl _) (by omega) (by omega) k1) (permIn_mono d1 d2 20 n 0 n (by omega) (Nat.le_refl _) (by omega) k3)
  have HSY := Lib.hid (show 20 < n → ∀ w, SW (Value.int .i64) W g off d2 w → Calls Try.prog 39 #[.slice (some ⟨g, off, none⟩) n cap, .int .i64 0, .int .i64 20, .int .i64 n, fcmp p] w fun x w' => x = .returned (.tuple #[]) ∧ ∃ f, PermIn 0 n d f ∧ SortedIn (ltOf (cfr e)) 0 n f ∧ SW (Value.int .i64) W g off f w' from fun h w hw => by
    have := sym_any (cfr e) hS p g off cap n d W hcmp R hnn.symm (by omega) n 0 20 n d2 w (by omega) (by omega) h (Nat.le_refl _) hs2 (sorted_keep k2 k3 (.inl (Nat.le_refl _))) k4 hw
    exact this.mono fun x w' ⟨h1, f, h2, h3, h4⟩ => ⟨h1, f, permIn_trans _ _ _ _ _ hP h2, h3, h4⟩)
  have HLT := Lib.hid (show n = 20 → ∀ w, SW (Value.int .i64) W g off d2 w → ∃ f, PermIn 0 n d f ∧ SortedIn (ltOf (cfr e)) 0 n f ∧ SW (Value.int .i64) W g off f w from fun h w hw => ⟨d2, hP, by rw [h]; exact sorted_keep k2 k3 (.inl (Nat.le_refl _)), hw⟩)
  have H0 := Lib.hid (show StA W g off d1 (.int .i64 0) (.int .i64 20) W from .inl ⟨rfl, rfl, rfl⟩)
  rw [← hnn] at hn hn2 ⊢
  unfold fcmp at HI1 HI2 HSY
  clear hcmp hH R hS k1 k2 k3 k4 hP hnn hd1 hd2 hs1 hs2 hg he hlt
  go_enter Try.func35, Try.ntmps35
  go_wp2_with fail
  go_loopw [7, 8] (fun a b wr => StA W g off d1 a b wr) (fun _ b _ => 60 - (intOf b).toNat)
  case atStart => exact H0.out
  case round =>
    clear H0
    rcases hrel with ⟨rfl, rfl, rfl⟩ | ⟨rfl, rfl, hw⟩
    · have d1' : decide ((20 : Int) ≤ (n : Int)) = true := decide_eq_true (by omega)
      go_wp2_with fail
      refine HI1.out.mono ?_
      rintro x w1 ⟨rfl, hw⟩
      have HREL := Lib.hid (show StA wr g off d1 (.int .i64 20) (.int .i64 40) w1 from .inr ⟨rfl, rfl, hw⟩)
      clear hw
      go_wp2_with fail
      go_roundw
      case rel => exact HREL.out
      case measure => decide
    · have d1' : decide ((40 : Int) ≤ (n : Int)) = false := decide_eq_false (by omega)
      have HW := Lib.hid hw
      clear hw
      go_wp2_with fail
      refine (HI2.out wr HW.out).mono ?_
      rintro x w2 ⟨rfl, hw2⟩
      have H1 := Lib.hid (show StB W g off n (cfr e) d d2 (.int .i64 20) w2 from .inl ⟨rfl, hw2⟩)
      clear hw2
      go_wp2_with fail
      go_loopw [6] (fun c wr => StB W g off n (cfr e) d d2 c wr) (fun c _ => 60 - (intOf c).toNat)
      case atStart => exact H1.out
      case round =>
        clear H1
        rcases hrel with ⟨rfl, hw⟩ | ⟨rfl, hf⟩
        · by_cases h20 : n = 20
          · have hd : decide ((20 : Int) < (n : Int)) = false := decide_eq_false (by omega)
            have HF := Lib.hid (HLT.out h20 _ hw)
            clear hw
            go_wp2_with fail
            go_end0
            exact ⟨rfl, HF.out⟩
          · have hd : decide ((20 : Int) < (n : Int)) = true := decide_eq_true (by omega)
            have HC := Lib.hid (HSY.out (by omega) _ hw)
            have H2 := Lib.hid (show StC W g off d2 (.int .i64 0) (.int .i64 40) wr from ⟨rfl, rfl, hw⟩)
            clear hw
            go_wp2_with fail
            go_loopw [7, 8] (fun a b w => a = .int .i64 0 ∧ b = .int .i64 40 ∧ w = wr) (fun _ _ _ => 0)
            case atStart => exact ⟨rfl, rfl, rfl⟩
            case round =>
              obtain ⟨rfl, rfl, rfl⟩ := hrel
              have hd2 : decide ((40 : Int) ≤ (n : Int)) = false := decide_eq_false (by omega)
              go_wp2_with fail
              refine HC.out.mono ?_
              rintro x w3 ⟨rfl, hf⟩
              have HREL := Lib.hid (show StB W g off n (cfr e) d d2 (.int .i64 40) w3 from .inr ⟨rfl, hf⟩)
              clear hf
              go_wp2_with fail
              go_roundw
              case rel => exact HREL.out
              case measure => decide
        · have hd : decide ((40 : Int) < (n : Int)) = false := decide_eq_false (by omega)
          have HF := Lib.hid hf
          clear hf
          go_wp2_with fail
          go_end0
          exact ⟨rfl, HF.out⟩

theorem stab40 : Stab 40 := fun e p g off cap d W he hcmp hH hg hn => by
  by_cases h : d.size < 20
  · exact stable_small e p g off cap d W he hcmp hH hg h
  · exact stable_mid e p g off cap d W he hcmp hH hg hn (by omega)

end Go.Proofs.Ytmjaompepchieaa
