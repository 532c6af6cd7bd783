/- Contract of the merge in place, where the left piece has one element. -/
import Derived.Test.YtmjaompepchieaaPkR
set_option linter.unusedSimpArgs false
set_option linter.unusedVariables false
namespace Go.Proofs.Ytmjaompepchieaa
open Go.Shelf Go.RowKit Go.Sort

def fcmp (p : Nat) : Value := .func (.func 28) #[] #[.pointer (some ⟨p, 0, none⟩)]
/-- What a merge leaves. -/
def Merged (w0 : World) (g off : Nat) (cf : Int → Int → Int) (d : Array Int) (a b : Nat) (x : Ending) (w : World) : Prop := x = .returned (.tuple #[]) ∧ ∃ f, PermIn a b d f ∧ SortedIn (ltOf cf) a b f ∧ SW (Value.int .i64) w0 g off f w
def S1R (w0 : World) (g off : Nat) (cf : Int → Int → Int) (d : Array Int) (a m b : Nat) (vi vj : Value) (wr : World) : Prop := ∃ i j : Nat, vi = .int .i64 i ∧ vj = .int .i64 j ∧ m ≤ i ∧ i ≤ j ∧ j ≤ b ∧ (i = m ∨ ltOf cf d[i - 1]! d[a]! = true) ∧ (j = b ∨ ltOf cf d[j]! d[a]! = false) ∧ SW (Value.int .i64) w0 g off d wr
def S1M (w0 : World) (g off : Nat) (d : Array Int) (a b i : Nat) (vk : Value) (wr : World) : Prop := ∃ (k : Nat) (f : Array Int), vk = .int .i64 k ∧ a ≤ k ∧ k ≤ i - 1 ∧ Led w0 g off d (mvIx a k) a b f wr

set_option maxRecDepth 1000000 in
set_option maxHeartbeats 6400000 in
theorem sym_one (cf : Int → Int → Int) (hS : SWO (ltOf cf)) (p g off cap a m b : Nat) (d0 d : Array Int) (w0 w : World) (hcmp : CmpLays1 Try.prog 28 #[.pointer (some ⟨p, 0, none⟩)] (Value.int .i64) cf g off d0.size w0) (R : Row1 (Value.int .i64) w0 g off d0) (hs : d0.size = d.size) (S : SW (Value.int .i64) w0 g off d w) (ham : m = a + 1) (hmb : m < b) (hB : b ≤ d.size) (hsz : d.size ≤ 1000) (hR : SortedIn (ltOf cf) m b d) :
    Calls Try.prog 39 #[.slice (some ⟨g, off, none⟩) d.size cap, .int .i64 a, .int .i64 m, .int .i64 b, fcmp p] w (Merged w0 g off cf d a b) := by
  obtain ⟨M, hM⟩ : ∃ M, M = d.size := ⟨_, rfl⟩
  have HM : Aside (M = d.size) := hM
  have S0 : Aside (S1R w0 g off cf d a m b (.int .i64 m) (.int .i64 b) w) := ⟨m, b, rfl, rfl, Nat.le_refl _, by omega, Nat.le_refl _, .inl rfl, .inl rfl, S⟩
  have HC : Aside _ := hcmp
  have HSO : Aside _ := hR
  have HSW : Aside _ := hS
  have er := enter_rankcmp
  have mixed := mixed_
  have z1 : (m : Int) - (a : Int) = 1 := by omega
  rw [← hM] at hsz hB hs ⊢
  have HAM := Lib.hid ham
  have ham' : a < m := by omega
  clear S hM hcmp hR hS ham
  unfold fcmp
  go_enter Try.func39, Try.ntmps39
  go_wp2_with fail
  go_loopw [10, 11] (fun i j wr => S1R w0 g off cf d a m b i j wr) (fun i j _ => (intOf j).toNat - (intOf i).toNat)
  case atStart => exact S0
  case round =>
    clear S0
    obtain ⟨i, j, rfl, rfl, h1, h2, h3, hi, hj, S1⟩ := hrel
    by_cases hlt : i < j
    · have hlz : decide ((i : Int) < (j : Int)) = true := decide_eq_true (by omega)
      obtain ⟨s, hs2⟩ : ∃ s, s = i + j := ⟨_, rfl⟩
      obtain ⟨h, hh⟩ : ∃ h, h = s / 2 := ⟨_, rfl⟩
      have hsb : s ≤ 2000 := by omega
      have hhb : h ≤ 1000 := by omega
      have zs : (i : Int) + (j : Int) = (s : Int) := by omega
      have zh : (s : Int) / 2 = (h : Int) := by omega
      have hhM : h < M := by omega
      have haM : a < M := by omega
      have ihj : i ≤ h ∧ h < j := by omega
      have hds : d.size = d0.size := by rw [hs, ← HM]
      have HL0 : Aside _ := S1
      obtain ⟨x, hx⟩ : ∃ x, x = d[h]! := ⟨_, rfl⟩
      obtain ⟨y, hy⟩ : ∃ y, y = d[a]! := ⟨_, rfl⟩
      have la := S1.cl R hds h (by rw [← HM]; exact hhM)
      have lb := S1.cl R hds a (by rw [← HM]; exact haM)
      rw [← hx] at la
      rw [← hy] at lb
      have hc := S1.cmp HC hds x y
      cases hlv : ltOf cf d[h]! d[a]! with
      | true =>
        have S3 : ∀ n os, Aside (S1R w0 g off cf d a m b (.int .i64 ((h : Int) + 1)) (.int .i64 j) (grow (wr.drewN n) os)) := fun n os =>
          ⟨h + 1, j, by rw [show (h : Int) + 1 = ((h + 1 : Nat) : Int) from by simp], rfl, by omega, by omega, h3, .inr (by rw [Nat.add_sub_cancel]; exact hlv), hj, S1.grown n os⟩
        have hd : decide (cf x y < 0) = true := by rw [hx, hy]; exact hlv
        clear hs2 hh hx hy S1 HL0 hi hj hlv
        go_wp2_with fail
        go_quiet_grown (first | (go_at_fn 28; refine Calls.grown_of (hc _ _)))
        have S4 := S3 nq osq
        clear la lb hc S3
        generalize grow (wr.drewN nq) osq = w2 at S4 ⊢
        clear nq osq
        go_wp2_with fail
        go_roundw
        case rel => exact S4
        case measure => simp [intOf]; omega
      | false =>
        have S3 : ∀ n os, Aside (S1R w0 g off cf d a m b (.int .i64 i) (.int .i64 h) (grow (wr.drewN n) os)) := fun n os =>
          ⟨i, h, rfl, rfl, h1, ihj.1, by omega, hi, .inr hlv, S1.grown n os⟩
        have hd : decide (cf x y < 0) = false := by rw [hx, hy]; exact hlv
        clear hs2 hh hx hy S1 HL0 hi hj hlv
        go_wp2_with fail
        go_quiet_grown (first | (go_at_fn 28; refine Calls.grown_of (hc _ _)))
        have S4 := S3 nq osq
        clear la lb hc S3
        generalize grow (wr.drewN nq) osq = w2 at S4 ⊢
        clear nq osq
        go_wp2_with fail
        go_roundw
        case rel => exact S4
        case measure => simp [intOf]; omega
    · obtain rfl : i = j := by omega
      have HI := Lib.hid (show ∀ f w', Led w0 g off d (mvIx a (i - 1)) a b f w' → ∃ f, PermIn a b d f ∧ SortedIn (ltOf cf) a b f ∧ SW (Value.int .i64) w0 g off f w' from fun f w' hl => ⟨f, hl.per, mv_sorted HSW HAM.out HSO h1 h3 hi hj hl.com, hl.sw⟩)
      have K0 : Aside (S1M w0 g off d a b i (.int .i64 a) wr) := ⟨a, d, rfl, Nat.le_refl _, by omega, Comes.refl d (mv_zero a), permIn_refl _ _ _, S1⟩
      have zi : (i : Int) - 1 = ((i - 1 : Nat) : Int) := by omega
      obtain ⟨t, ht⟩ : ∃ t, t = i - 1 := ⟨_, rfl⟩
      have hat : a ≤ t ∧ t < b ∧ t + 1 = i := by omega
      rw [← ht] at zi
      unfold S1M at K0
      rw [← ht] at HI
      simp only [← ht] at K0
      clear S1 hi hj ht
      go_wp2_with fail
      go_loopw [13] (fun k wr => S1M w0 g off d a b i k wr) (fun k _ => t - (intOf k).toNat)
      case atStart => unfold S1M; rw [show i - 1 = t by omega]; exact K0
      case round =>
        clear K0
        obtain ⟨k, f, rfl, hk1, hk2, SK⟩ := hrel
        have hd : decide ((k : Int) < ((t : Nat) : Int)) = decide (k < t) := by simp
        by_cases hlt : k < t
        · have hlz : decide ((k : Int) < (t : Int)) = true := decide_eq_true (by omega)
          obtain ⟨q, hq⟩ : ∃ q, q = k + 1 := ⟨_, rfl⟩
          have zq : (k : Int) + 1 = (q : Int) := by omega
          have bk : k < M := by omega
          have bq : q < M := by omega
          have hfs : f.size = M := SK.size.trans HM.symm
          have hds : f.size = d0.size := by rw [hfs, hs]
          obtain ⟨x, hx⟩ : ∃ x, x = f[k]! := ⟨_, rfl⟩
          obtain ⟨y, hy⟩ : ∃ y, y = f[q]! := ⟨_, rfl⟩
          have S3 : Aside (S1M w0 g off d a b i (.int .i64 q) ((wr.setCell ⟨g, off + k, none⟩ (.int .i64 y)).setCell ⟨g, off + q, none⟩ (.int .i64 x)).drew) :=
            ⟨q, _, rfl, by omega, by omega, SK.step R (i := k) (j := q) ⟨by omega, by omega⟩ ⟨by omega, by omega⟩ (by rw [← HM]; exact hB) (by omega) (fun r => by rw [hq]; exact mv_step hk1 r) hx hy⟩
          have ca := SK.sw.c1 R hds k (by omega)
          have cb := SK.sw.c1 R hds q (by omega)
          have fa := SK.sw.f1 R hds k (by omega)
          have fb := SK.sw.f1 R hds q (by omega)
          obtain ⟨u, cc⟩ := SK.sw.c2 R hds k q (by omega) (by omega) (.int .i64 y)
          rw [← hx] at ca
          rw [← hy] at cb
          clear SK hx hy hq hfs hds hd
          go_wp2_with fail
          go_big_region_o
          clear ca cb cc fa fb
          generalize ((wr.setCell ⟨g, off + k, none⟩ (.int .i64 y)).setCell ⟨g, off + q, none⟩ (.int .i64 x)).drew = w3 at S3 ⊢
          go_wp2_with fail
          go_roundw
          case rel => exact S3
          case measure => simp [intOf]; omega
        · have hlz : decide ((k : Int) < (t : Int)) = false := decide_eq_false (by omega)
          obtain rfl : k = t := by omega
          have HG := Lib.hid (HI.out f wr SK)
          clear SK hd
          go_wp2_with fail
          go_end0
          exact ⟨rfl, HG.out⟩

end Go.Proofs.Ytmjaompepchieaa
