/- Contract of the merge in place, where the right piece has one element. -/
import Derived.Test.YtmjaompepchieaaPkX
set_option linter.unusedSimpArgs false
set_option linter.unusedVariables false
namespace Go.Proofs.Ytmjaompepchieaa
open Go.Shelf Go.RowKit Go.Sort

def S2R (w0 : World) (g off : Nat) (cf : Int → Int → Int) (d : Array Int) (a m : Nat) (vi vj : Value) (wr : World) : Prop := ∃ i j : Nat, vi = .int .i64 i ∧ vj = .int .i64 j ∧ a ≤ i ∧ i ≤ j ∧ j ≤ m ∧ (i = a ∨ ltOf cf d[m]! d[i - 1]! = false) ∧ (j = m ∨ ltOf cf d[m]! d[j]! = true) ∧ SW (Value.int .i64) w0 g off d wr
def S2M (w0 : World) (g off : Nat) (d : Array Int) (a m b i : Nat) (vk : Value) (wr : World) : Prop := ∃ (k : Nat) (f : Array Int), vk = .int .i64 k ∧ i ≤ k ∧ k ≤ m ∧ Led w0 g off d (mlIx m k) a b f wr

set_option maxRecDepth 1000000 in
set_option maxHeartbeats 6400000 in
theorem sym_two (cf : Int → Int → Int) (hS : SWO (ltOf cf)) (p g off cap a m b : Nat) (d0 d : Array Int) (w0 w : World) (hcmp : CmpLays1 Try.prog 28 #[.pointer (some ⟨p, 0, none⟩)] (Value.int .i64) cf g off d0.size w0) (R : Row1 (Value.int .i64) w0 g off d0) (hs : d0.size = d.size) (S : SW (Value.int .i64) w0 g off d w) (ham : a + 1 < m) (hmb : b = m + 1) (hB : b ≤ d.size) (hsz : d.size ≤ 1000) (hR : SortedIn (ltOf cf) a m d) :
    Calls Try.prog 39 #[.slice (some ⟨g, off, none⟩) d.size cap, .int .i64 a, .int .i64 m, .int .i64 b, fcmp p] w (Merged w0 g off cf d a b) := by
  obtain ⟨M, hM⟩ : ∃ M, M = d.size := ⟨_, rfl⟩
  have HM : Aside (M = d.size) := hM
  have S0 : Aside (S2R w0 g off cf d a m (.int .i64 a) (.int .i64 m) w) := ⟨a, m, rfl, rfl, Nat.le_refl _, by omega, Nat.le_refl _, .inl rfl, .inl rfl, S⟩
  have HC : Aside _ := hcmp
  have HSO : Aside _ := hR
  have HSW : Aside _ := hS
  have er := enter_rankcmp
  have mixed := mixed_
  obtain ⟨u1, hu1⟩ : ∃ u, u = m - a := ⟨_, rfl⟩
  have z1 : (m : Int) - (a : Int) = (u1 : Int) := by omega
  have z2 : ((u1 : Int) == 1) = false := by rw [beq_eq_false_iff_ne]; omega
  have z3 : (b : Int) - (m : Int) = 1 := by omega
  rw [← hM] at hsz hB hs ⊢
  have HAM := Lib.hid hmb
  have hmb' : m < b := by omega
  clear S hM hcmp hR hS hmb hu1
  unfold fcmp
  go_enter Try.func39, Try.ntmps39
  go_wp2_with fail
  go_loopw [14, 15] (fun i j wr => S2R w0 g off cf d a m i j wr) (fun i j _ => (intOf j).toNat - (intOf i).toNat)
  case atStart => exact S0
  case round =>
    clear S0
    obtain ⟨i, j, rfl, rfl, h1, h2, h3, hi, hj, S1⟩ := hrel
    by_cases hlt : i < j
    · have hlz : decide ((i : Int) < (j : Int)) = true := decide_eq_true (by omega)
      obtain ⟨s, hs2⟩ : ∃ s, s = i + j := ⟨_, rfl⟩
      obtain ⟨h, hh⟩ : ∃ h, h = s / 2 := ⟨_, rfl⟩
      have hsb : s ≤ 2000 := by omega
      have hhb : h ≤ 1000 := by omega
      have zs : (i : Int) + (j : Int) = (s : Int) := by omega
      have zh : (s : Int) / 2 = (h : Int) := by omega
      have hhM : h < M := by omega
      have haM : m < M := by omega
      have ihj : i ≤ h ∧ h < j := by omega
      have hds : d.size = d0.size := by rw [hs, ← HM]
      have HL0 : Aside _ := S1
      obtain ⟨x, hx⟩ : ∃ x, x = d[m]! := ⟨_, rfl⟩
      obtain ⟨y, hy⟩ : ∃ y, y = d[h]! := ⟨_, rfl⟩
      have la := S1.cl R hds m (by rw [← HM]; exact haM)
      have lb := S1.cl R hds h (by rw [← HM]; exact hhM)
      rw [← hx] at la
      rw [← hy] at lb
      have hc := S1.cmp HC hds x y
      cases hlv : ltOf cf d[m]! d[h]! with
      | false =>
        have S3 : ∀ n os, Aside (S2R w0 g off cf d a m (.int .i64 ((h : Int) + 1)) (.int .i64 j) (grow (wr.drewN n) os)) := fun n os =>
          ⟨h + 1, j, by rw [show (h : Int) + 1 = ((h + 1 : Nat) : Int) from by simp], rfl, by omega, by omega, h3, .inr (by rw [Nat.add_sub_cancel]; exact hlv), hj, S1.grown n os⟩
        have hd : decide (cf x y < 0) = false := by rw [hx, hy]; exact hlv
        clear hs2 hh hx hy S1 HL0 hi hj hlv
        go_wp2_with fail
        go_quiet_grown (first | (go_at_fn 28; refine Calls.grown_of (hc _ _)))
        have S4 := S3 nq osq
        clear la lb hc S3
        generalize grow (wr.drewN nq) osq = w2 at S4 ⊢
        clear nq osq
        go_wp2_with fail
        go_roundw
        case rel => exact S4
        case measure => simp [intOf]; omega
      | true =>
        have S3 : ∀ n os, Aside (S2R w0 g off cf d a m (.int .i64 i) (.int .i64 h) (grow (wr.drewN n) os)) := fun n os =>
          ⟨i, h, rfl, rfl, h1, ihj.1, by omega, hi, .inr hlv, S1.grown n os⟩
        have hd : decide (cf x y < 0) = true := by rw [hx, hy]; exact hlv
        clear hs2 hh hx hy S1 HL0 hi hj hlv
        go_wp2_with fail
        go_quiet_grown (first | (go_at_fn 28; refine Calls.grown_of (hc _ _)))
        have S4 := S3 nq osq
        clear la lb hc S3
        generalize grow (wr.drewN nq) osq = w2 at S4 ⊢
        clear nq osq
        go_wp2_with fail
        go_roundw
        case rel => exact S4
        case measure => simp [intOf]; omega
    · obtain rfl : i = j := by omega
      have HI := Lib.hid (show ∀ f w', Led w0 g off d (mlIx m i) a b f w' → ∃ f, PermIn a b d f ∧ SortedIn (ltOf cf) a b f ∧ SW (Value.int .i64) w0 g off f w' from fun f w' hl => ⟨f, hl.per, ml_sorted HSW HAM.out HSO h1 h3 hi hj hl.com, hl.sw⟩)
      have K0 : Aside (S2M w0 g off d a m b i (.int .i64 m) wr) := ⟨m, d, rfl, by omega, Nat.le_refl _, Comes.refl d (ml_zero m), permIn_refl _ _ _, S1⟩
      clear S1 hi hj
      go_wp2_with fail
      go_loopw [17] (fun k wr => S2M w0 g off d a m b i k wr) (fun k _ => (intOf k).toNat - i)
      case atStart => exact K0
      case round =>
        clear K0
        obtain ⟨k, f, rfl, hk1, hk2, SK⟩ := hrel
        by_cases hlt : i < k
        · have hlz : decide ((k : Int) > (i : Int)) = true := decide_eq_true (by omega)
          obtain ⟨q, hq⟩ : ∃ q, q + 1 = k := ⟨k - 1, by omega⟩
          have zq : (k : Int) - 1 = (q : Int) := by omega
          have bk : k < M := by omega
          have bq : q < M := by omega
          have hfs : f.size = M := SK.size.trans HM.symm
          have hds : f.size = d0.size := by rw [hfs, hs]
          obtain ⟨x, hx⟩ : ∃ x, x = f[k]! := ⟨_, rfl⟩
          obtain ⟨y, hy⟩ : ∃ y, y = f[q]! := ⟨_, rfl⟩
          have S3 : Aside (S2M w0 g off d a m b i (.int .i64 q) ((wr.setCell ⟨g, off + k, none⟩ (.int .i64 y)).setCell ⟨g, off + q, none⟩ (.int .i64 x)).drew) :=
            ⟨q, _, rfl, by omega, by omega, SK.step R (i := k) (j := q) ⟨by omega, by omega⟩ ⟨by omega, by omega⟩ (by rw [← HM]; exact hB) (by omega) (fun r => by rw [← hq]; exact ml_step (by omega) r) hx hy⟩
          have ca := SK.sw.c1 R hds k (by omega)
          have cb := SK.sw.c1 R hds q (by omega)
          have fa := SK.sw.f1 R hds k (by omega)
          have fb := SK.sw.f1 R hds q (by omega)
          obtain ⟨u, cc⟩ := SK.sw.c2 R hds k q (by omega) (by omega) (.int .i64 y)
          rw [← hx] at ca
          rw [← hy] at cb
          have hqk : q < k := by omega
          clear SK hx hy hq hfs hds
          go_wp2_with fail
          go_big_region_o
          clear ca cb cc fa fb
          generalize ((wr.setCell ⟨g, off + k, none⟩ (.int .i64 y)).setCell ⟨g, off + q, none⟩ (.int .i64 x)).drew = w3 at S3 ⊢
          go_wp2_with fail
          go_roundw
          case rel => exact S3
          case measure => simp [intOf]; omega
        · have hlz : decide ((k : Int) > (i : Int)) = false := decide_eq_false (by omega)
          obtain rfl : k = i := by omega
          have HG := Lib.hid (HI.out f wr SK)
          clear SK
          go_wp2_with fail
          go_end0
          exact ⟨rfl, HG.out⟩

end Go.Proofs.Ytmjaompepchieaa
