/- Contract of the merge in place: the general case, by the length. (Printed by mkpkz.py.) -/
import Derived.Test.YtmjaompepchieaaPkY
set_option linter.unusedSimpArgs false
set_option linter.unusedVariables false
namespace Go.Proofs.Ytmjaompepchieaa
open Go.Shelf Go.RowKit Go.Sort

def S3R (w0 : World) (g off : Nat) (cf : Int → Int → Int) (d : Array Int) (n lo hi : Nat) (vi vj : Value) (wr : World) : Prop := ∃ i j : Nat, vi = .int .i64 i ∧ vj = .int .i64 j ∧ lo ≤ i ∧ i ≤ j ∧ j ≤ hi ∧ (i = lo ∨ ltOf cf d[n - i]! d[i - 1]! = false) ∧ (j = hi ∨ ltOf cf d[n - 1 - j]! d[j]! = true) ∧ SW (Value.int .i64) w0 g off d wr
/-- Behind the rotation; behind the first half's merge. -/
structure M1 (w0 : World) (g off : Nat) (d : Array Int) (a m b s e : Nat) (f : Array Int) (w : World) : Prop where
  com : Comes (rotIx s m e) d f
  per : PermIn a b d f
  sw : SW (Value.int .i64) w0 g off f w
structure M2 (w0 : World) (g off : Nat) (cf : Int → Int → Int) (d : Array Int) (a m b s e mid : Nat) (h : Array Int) (w : World) : Prop where
  ex : ∃ f, Comes (rotIx s m e) d f ∧ PermIn a b d f ∧ PermIn a mid f h ∧ SortedIn (ltOf cf) a mid h
  sw : SW (Value.int .i64) w0 g off h w
theorem M1.rot {w0 w : World} {g off : Nat} {d f : Array Int} {a m b s e : Nat} (h : Led w0 g off d (rotIx s m e) s e f w) (h1 : a ≤ s) (h2 : e ≤ b) (hb : b ≤ d.size) : M1 w0 g off d a m b s e f w := ⟨h.com, permIn_mono _ _ _ _ _ _ h1 h2 hb h.per, h.sw⟩
theorem M1.none {w0 w : World} {g off : Nat} {d : Array Int} {a m b s e : Nat} (h : SW (Value.int .i64) w0 g off d w) (h1 : s ≤ m) (h2 : m ≤ e) (h3 : s = m ∨ m = e) : M1 w0 g off d a m b s e d w := ⟨Comes.refl d (rot_none h1 h2 h3), permIn_refl _ _ _, h⟩
theorem M2.of {w0 w w' : World} {g off : Nat} {cf : Int → Int → Int} {d f h : Array Int} {a m b s e mid : Nat} (h1 : M1 w0 g off d a m b s e f w) (hp : PermIn a mid f h) (hs : SortedIn (ltOf cf) a mid h) (S : SW (Value.int .i64) w0 g off h w') : M2 w0 g off cf d a m b s e mid h w' := ⟨⟨f, h1.com, h1.per, hp, hs⟩, S⟩

/-- All that the general case knows. -/
structure Gen (cf : Int → Int → Int) (d : Array Int) (a m b s e mid : Nat) : Prop where
  so : SWO (ltOf cf)
  L : SortedIn (ltOf cf) a m d
  R : SortedIn (ltOf cf) m b d
  cut : Cut (ltOf cf) d a m b s
  hmid : mid = (a + b) / 2
  he : e = mid + m - s
theorem Gen.cross {cf : Int → Int → Int} {d f : Array Int} {a m b s e mid : Nat} (h : Gen cf d a m b s e mid) (hf : Comes (rotIx s m e) d f) :
    (∀ p q, a ≤ p → p < mid → mid ≤ q → q < b → ltOf cf f[q]! f[p]! = false) ∧ SortedIn (ltOf cf) a s f ∧ SortedIn (ltOf cf) s mid f ∧ SortedIn (ltOf cf) mid e f ∧ SortedIn (ltOf cf) e b f := by
  have := cut_cross h.so h.L h.R h.cut (f := f) (by rw [← h.hmid, ← h.he]; exact hf)
  rwa [← h.hmid, ← h.he] at this
theorem Gen.one {cf : Int → Int → Int} {d f : Array Int} {a m b s e mid : Nat} (h : Gen cf d a m b s e mid) {w0 w : World} {g off : Nat} (h1 : M1 w0 g off d a m b s e f w) : SortedIn (ltOf cf) a s f ∧ SortedIn (ltOf cf) s mid f := ⟨(h.cross h1.com).2.1, (h.cross h1.com).2.2.1⟩
theorem Gen.skip {cf : Int → Int → Int} {d f : Array Int} {a m b s e mid : Nat} (h : Gen cf d a m b s e mid) {w0 w : World} {g off : Nat} (h1 : M1 w0 g off d a m b s e f w) (hx : s = a ∨ s = mid) : M2 w0 g off cf d a m b s e mid f w := by
  refine M2.of h1 (permIn_refl _ _ _) ?_ h1.sw
  rcases hx with hx | hx
  · have := (h.one h1).2; rwa [hx] at this
  · have := (h.one h1).1; rwa [hx] at this
theorem Gen.two {cf : Int → Int → Int} {d f : Array Int} {a m b s e mid : Nat} (h : Gen cf d a m b s e mid) {w0 w : World} {g off : Nat} (h2 : M2 w0 g off cf d a m b s e mid f w) : SortedIn (ltOf cf) mid e f ∧ SortedIn (ltOf cf) e b f := by
  obtain ⟨f1, hc, _, hp, _⟩ := h2.ex
  obtain ⟨_, _, _, k1, k2⟩ := h.cross hc
  have hh := h.cut.at
  rw [← h.hmid, ← h.he] at hh
  have he := h.he
  have := h.cut.ham
  exact ⟨sorted_keep k1 hp (.inr (Nat.le_refl _)), sorted_keep k2 hp (.inr (by omega))⟩
theorem Gen.fin {cf : Int → Int → Int} {d f h : Array Int} {a m b s e mid : Nat} (hg : Gen cf d a m b s e mid) {w0 w w' : World} {g off : Nat} (hb : b ≤ d.size) (h2 : M2 w0 g off cf d a m b s e mid f w) (hp : PermIn mid b f h) (hs : SortedIn (ltOf cf) mid b h) (S : SW (Value.int .i64) w0 g off h w') : ∃ f, PermIn a b d f ∧ SortedIn (ltOf cf) a b f ∧ SW (Value.int .i64) w0 g off f w' := by
  obtain ⟨f1, hc, hp1, hp2, hs2⟩ := h2.ex
  have hmid := hg.hmid
  have := hg.cut.ham
  have := hg.cut.hmb
  obtain ⟨k1, k2⟩ := sym_join (by rw [hp1.1]; exact hb) (by omega) (by omega) (hg.cross hc).1 hp2 hs2 hp hs
  exact ⟨h, permIn_trans _ _ _ _ _ hp1 k1, k2, S⟩
theorem Gen.last {cf : Int → Int → Int} {d f : Array Int} {a m b s e mid : Nat} (hg : Gen cf d a m b s e mid) {w0 w : World} {g off : Nat} (hb : b ≤ d.size) (h2 : M2 w0 g off cf d a m b s e mid f w) (hx : e = mid ∨ e = b) : ∃ f, PermIn a b d f ∧ SortedIn (ltOf cf) a b f ∧ SW (Value.int .i64) w0 g off f w := by
  refine hg.fin hb h2 (permIn_refl _ _ _) ?_ h2.sw
  rcases hx with hx | hx
  · have := (hg.two h2).2; rwa [hx] at this
  · have := (hg.two h2).1; rwa [hx] at this

/-- The merge of shorter pieces, as the induction has it. -/
def SymIH (w0 : World) (g off cap M : Nat) (p : Nat) (cf : Int → Int → Int) (N : Nat) : Prop := ∀ (a m b : Nat) (d : Array Int) (w : World), b - a ≤ N → a < m → m < b → b ≤ M → d.size = M → SortedIn (ltOf cf) a m d → SortedIn (ltOf cf) m b d → SW (Value.int .i64) w0 g off d w →
  Calls Try.prog 39 #[.slice (some ⟨g, off, none⟩) M cap, .int .i64 a, .int .i64 m, .int .i64 b, fcmp p] w (Merged w0 g off cf d a b)

set_option maxRecDepth 1000000 in
set_option maxHeartbeats 12800000 in
theorem sym_low (cf : Int → Int → Int) (hS : SWO (ltOf cf)) (p g off cap M a m b N : Nat) (d0 d : Array Int) (w0 w : World) (hcmp : CmpLays1 Try.prog 28 #[.pointer (some ⟨p, 0, none⟩)] (Value.int .i64) cf g off d0.size w0) (R : Row1 (Value.int .i64) w0 g off d0) (hs : d0.size = M) (hd : d.size = M) (S : SW (Value.int .i64) w0 g off d w) (ham : a + 1 < m) (hmb : m + 1 < b) (hB : b ≤ M) (hsz : M ≤ 1000) (hN : b - a ≤ N + 1) (hIH : SymIH w0 g off cap M p cf N) (hL : SortedIn (ltOf cf) a m d) (hR : SortedIn (ltOf cf) m b d) (hcase : (a + b) / 2 < m) :
    Calls Try.prog 39 #[.slice (some ⟨g, off, none⟩) M cap, .int .i64 a, .int .i64 m, .int .i64 b, fcmp p] w (Merged w0 g off cf d a b) := by
  have HM : Aside (M = d.size) := hd.symm
  obtain ⟨t, ht⟩ : ∃ t, t = a + b := ⟨_, rfl⟩
  obtain ⟨mid, hmid⟩ : ∃ mid, mid = t / 2 := ⟨_, rfl⟩
  obtain ⟨n, hn⟩ : ∃ n, n = mid + m := ⟨_, rfl⟩
  obtain ⟨pp, hpp⟩ : ∃ pp, pp + 1 = n := ⟨n - 1, by omega⟩
  obtain ⟨lo, hlo⟩ : ∃ lo, lo = n - b := ⟨_, rfl⟩
  obtain ⟨hi, hhi⟩ : ∃ hi, hi = mid := ⟨_, rfl⟩
  have zlo : (n : Int) - (b : Int) = (lo : Int) := by omega
  have hdm : decide ((m : Int) > (mid : Int)) = true := decide_eq_true (by omega)
  have hdm2 : mid < m := by omega
  have HG := Lib.hid (show ∀ s e, lo ≤ s → s ≤ hi → (s = lo ∨ ltOf cf d[n - s]! d[s - 1]! = false) → (s = hi ∨ ltOf cf d[n - 1 - s]! d[s]! = true) → e = n - s → Gen cf d a m b s e mid from fun s e h1 h2 h3 h4 h5 => by
    have em : (a + b) / 2 = mid := by rw [hmid, ht]
    refine ⟨hS, hL, hR, ⟨by omega, by omega, ?_, ?_, ?_, ?_⟩, em.symm, by omega⟩
    all_goals rw [em]
    all_goals rw [em] at hcase
    all_goals first | rw [if_pos hcase] | rw [if_neg hcase]
    · omega
    · omega
    · rw [← hn]; rcases h3 with h3 | h3
      · left; omega
      · exact .inr h3
    · rw [← hn]; rcases h4 with h4 | h4
      · left; omega
      · exact .inr h4)
  have hlo1 : a ≤ lo ∧ n ≤ b + lo ∧ lo ≤ hi ∧ hi ≤ m ∧ hi ≤ mid := by omega
  have S0 : Aside (S3R w0 g off cf d n lo hi (.int .i64 lo) (.int .i64 hi) w) := ⟨lo, hi, rfl, rfl, Nat.le_refl _, hlo1.2.2.1, Nat.le_refl _, .inl rfl, .inl rfl, S⟩
  have HC : Aside _ := hcmp
  have HIH := Lib.hid hIH
  have HROT := Lib.hid (show ∀ s e w, SW (Value.int .i64) w0 g off d w → s < m → m < e → e ≤ b → Calls Try.prog 40 #[.slice (some ⟨g, off, none⟩) M cap, .int .i64 s, .int .i64 m, .int .i64 e, fcmp p] w fun x w' => x = .returned (.tuple #[]) ∧ ∃ f, Led w0 g off d (rotIx s m e) s e f w' from fun s e w hw h1 h2 h3 => by
    have := rotate_any g off cap s m e d0 d w0 w (fcmp p) R (by rw [hs, hd]) hw h1 h2 (by rw [hd]; omega) (by rw [hd]; exact hsz)
    rwa [hd] at this)
  have er := enter_rankcmp
  have mixed := mixed_
  obtain ⟨u1, hu1⟩ : ∃ u, u = m - a := ⟨_, rfl⟩
  have z1 : (m : Int) - (a : Int) = (u1 : Int) := by omega
  have z2 : ((u1 : Int) == 1) = false := by rw [beq_eq_false_iff_ne]; omega
  obtain ⟨u2, hu2⟩ : ∃ u, u = b - m := ⟨_, rfl⟩
  have z3 : (b : Int) - (m : Int) = (u2 : Int) := by omega
  have z4 : ((u2 : Int) == 1) = false := by rw [beq_eq_false_iff_ne]; omega
  have z5 : (a : Int) + (b : Int) = (t : Int) := by omega
  have z6 : (t : Int) / 2 = (mid : Int) := by omega
  have z7 : (mid : Int) + (m : Int) = (n : Int) := by omega
  have z8 : (n : Int) - 1 = (pp : Int) := by omega
  have b1 : t ≤ 2000 := by omega
  have b2 : mid ≤ 1000 := by omega
  have b3 : n ≤ 2000 := by omega
  have b4 : u1 ≤ 1000 := by omega
  have b5 : u2 ≤ 1000 := by omega
  have b6 : lo ≤ 1000 := by omega
  have b7 : hi ≤ 1000 := by omega
  have b8 : pp ≤ 2000 := by omega
  have hA : a ≤ lo := hlo1.1
  have hA2 : n ≤ b + lo := hlo1.2.1
  have hA3 : lo ≤ hi := hlo1.2.2.1
  have hA4 : hi ≤ m := hlo1.2.2.2.1
  have hA5 : hi ≤ mid := hlo1.2.2.2.2
  have HX := Lib.hid (show t = a + b ∧ mid = t / 2 ∧ n = mid + m ∧ pp + 1 = n ∧ (lo = n - b ∧ hi = mid) ∧ d.size = M ∧ mid < m from ⟨ht, hmid, hn, hpp, ⟨hlo, hhi⟩, hd, by omega⟩)
  clear S hcmp hR hS hL hIH hu1 hu2 ht hmid hn hpp hlo hhi hd hlo1 hcase
  unfold fcmp
  go_enter Try.func39, Try.ntmps39
  go_wp2_with fail
  go_loopw [20, 21] (fun i j wr => S3R w0 g off cf d n lo hi i j wr) (fun i j _ => (intOf j).toNat - (intOf i).toNat)
  case atStart => rw [← HX.out.2.2.2.2.1.2]; exact S0
  case round =>
    clear S0
    obtain ⟨i, j, rfl, rfl, h1, h2, h3, hi1, hj1, S1⟩ := hrel
    by_cases hlt : i < j
    · have hlz : decide ((i : Int) < (j : Int)) = true := decide_eq_true (by omega)
      obtain ⟨s, hs2⟩ : ∃ s, s = i + j := ⟨_, rfl⟩
      obtain ⟨c, hc2⟩ : ∃ c, c = s / 2 := ⟨_, rfl⟩
      have hX := HX.out
      obtain ⟨v, hv⟩ : ∃ v, v + c = pp := ⟨pp - c, by omega⟩
      have hsb : s ≤ 2000 := by omega
      have hhb : c ≤ 1000 := by omega
      have zs : (i : Int) + (j : Int) = (s : Int) := by omega
      have zh : (s : Int) / 2 = (c : Int) := by omega
      have zv : (pp : Int) - (c : Int) = (v : Int) := by omega
      have zw : IntKind.i64.wrap (v : Int) = (v : Int) := by rw [IntKind.wrap_i64]; omega
      have hcM : c < M := by omega
      have hvM : v < M := by omega
      have hvb : v ≤ 1000 := by omega
      have ihj : i ≤ c ∧ c < j := by omega
      have hds : d.size = d0.size := by rw [hs, ← HM]
      obtain ⟨x, hx⟩ : ∃ x, x = d[v]! := ⟨_, rfl⟩
      obtain ⟨y, hy⟩ : ∃ y, y = d[c]! := ⟨_, rfl⟩
      have la := S1.cl R hds v (by rw [← HM]; exact hvM)
      have lb := S1.cl R hds c (by rw [← HM]; exact hcM)
      rw [← hx] at la
      rw [← hy] at lb
      have hc := S1.cmp HC hds x y
      have ev : n - 1 - c = v := by omega
      have ev2 : n - (c + 1) = v := by omega
      cases hlv : ltOf cf d[v]! d[c]! with
      | true =>
        have S3 : ∀ n' os, Aside (S3R w0 g off cf d n lo hi (.int .i64 i) (.int .i64 c) (grow (wr.drewN n') os)) := fun n' os =>
          ⟨i, c, rfl, rfl, h1, ihj.1, by omega, hi1, .inr (by rw [ev]; exact hlv), S1.grown n' os⟩
        have hdd : decide (cf x y < 0) = true := by rw [hx, hy]; exact hlv
        clear hs2 hc2 hv hx hy S1 hi1 hj1 hlv hX ev ev2 hds
        go_wp2_with fail
        go_quiet_grown (first | (go_at_fn 28; refine Calls.grown_of (hc _ _)))
        have S4 := S3 nq osq
        clear la lb hc S3
        generalize grow (wr.drewN nq) osq = w2 at S4 ⊢
        clear nq osq
        go_wp2_with fail
        go_roundw
        case rel => exact S4
        case measure => simp [intOf]; omega
      | false =>
        have S3 : ∀ n' os, Aside (S3R w0 g off cf d n lo hi (.int .i64 ((c : Int) + 1)) (.int .i64 j) (grow (wr.drewN n') os)) := fun n' os =>
          ⟨c + 1, j, by rw [show (c : Int) + 1 = ((c + 1 : Nat) : Int) from by simp], rfl, by omega, by omega, h3, .inr (by rw [ev2, Nat.add_sub_cancel]; exact hlv), hj1, S1.grown n' os⟩
        have hdd : decide (cf x y < 0) = false := by rw [hx, hy]; exact hlv
        clear hs2 hc2 hv hx hy S1 hi1 hj1 hlv hX ev ev2 hds
        go_wp2_with fail
        go_quiet_grown (first | (go_at_fn 28; refine Calls.grown_of (hc _ _)))
        have S4 := S3 nq osq
        clear la lb hc S3
        generalize grow (wr.drewN nq) osq = w2 at S4 ⊢
        clear nq osq
        go_wp2_with fail
        go_roundw
        case rel => exact S4
        case measure => simp [intOf]; omega
    · obtain rfl : i = j := by omega
      have hX := HX.out
      obtain ⟨e, he⟩ : ∃ e, e = n - i := ⟨_, rfl⟩
      have ze : (n : Int) - (i : Int) = (e : Int) := by omega
      have be : e ≤ 1000 := by omega
      have GN := Lib.hid (HG.out i e h1 h3 hi1 hj1 he)
      have hN2 : mid - a ≤ N ∧ b - mid ≤ N := by omega
      have HSW := Lib.hid S1
      have he2 : m ≤ e ∧ e ≤ b ∧ mid ≤ e := by omega
      have hbd : b ≤ d.size := by rw [hX.2.2.2.2.2.1]; exact hB
      have HBD := Lib.hid hbd
      have HSZ := Lib.hid hX.2.2.2.2.2.1
      clear S1 hi1 hj1 HG hbd
      by_cases hq6 : i < mid
      · by_cases hq8 : a < i
        · by_cases hq10 : e < b
          · have d1 : decide ((i : Int) < (m : Int)) = true := decide_eq_true (by omega)
            have nd1 : i < m := by omega
            have d2 : decide ((m : Int) < (e : Int)) = true := decide_eq_true (by omega)
            have nd2 : m < e := by omega
            have d3 : decide ((a : Int) < (i : Int)) = true := decide_eq_true (by omega)
            have nd3 : a < i := by omega
            have d4 : decide ((i : Int) < (mid : Int)) = true := decide_eq_true (by omega)
            have nd4 : i < mid := by omega
            have d5 : decide ((mid : Int) < (e : Int)) = true := decide_eq_true (by omega)
            have nd5 : mid < e := by omega
            have d6 : decide ((e : Int) < (b : Int)) = true := decide_eq_true (by omega)
            have nd6 : e < b := by omega
            have FA := Lib.hid (show a ≤ i ∧ i ≤ m ∧ (i < m ∧ m < e) ∧ (a < i ∧ i < mid) ∧ (mid < e ∧ e < b) from by omega)
            have FB := Lib.hid (show mid - a ≤ N ∧ b - mid ≤ N ∧ m ≤ e ∧ e ≤ b ∧ mid ≤ b from ⟨hN2.1, hN2.2, he2.1, he2.2.1, by omega⟩)
            clear hX he he2 hN2 hlt
            have RO := Lib.hid (HROT.out i e wr HSW.out FA.out.2.2.1.1 FA.out.2.2.1.2 FB.out.2.2.2.1)
            unfold fcmp at RO
            go_wp2_with fail
            refine RO.out.mono ?_
            rintro x w1 ⟨rfl, f, hf⟩
            have K1 := Lib.hid (M1.rot hf FA.out.1 FB.out.2.2.2.1 HBD.out)
            clear hf RO
            have R1 := Lib.hid (HIH.out a i mid f w1 FB.out.1 FA.out.2.2.2.1.1 FA.out.2.2.2.1.2 (Nat.le_trans FB.out.2.2.2.2 (by rw [← HSZ.out]; exact HBD.out)) (by rw [K1.out.com.1]; exact HSZ.out) (GN.out.one K1.out).1 (GN.out.one K1.out).2 K1.out.sw)
            unfold fcmp at R1
            go_wp2_with fail
            refine R1.out.mono ?_
            rintro x w2 ⟨rfl, f2, hp2, hs2, hw2⟩
            have K2 := Lib.hid (M2.of K1.out hp2 hs2 hw2)
            clear hp2 hs2 hw2 R1
            have R2 := Lib.hid (HIH.out mid e b f2 w2 FB.out.2.1 FA.out.2.2.2.2.1 FA.out.2.2.2.2.2 (by rw [← HSZ.out]; exact HBD.out) (by obtain ⟨f1, k1, k2, k3, k4⟩ := K2.out.ex; rw [k3.1, k1.1]; exact HSZ.out) (GN.out.two K2.out).1 (GN.out.two K2.out).2 K2.out.sw)
            unfold fcmp at R2
            go_wp2_with fail
            refine R2.out.mono ?_
            rintro x w3 ⟨rfl, f3, hp3, hs3, hw3⟩
            have K3 := Lib.hid (GN.out.fin HBD.out K2.out hp3 hs3 hw3)
            clear hp3 hs3 hw3 R2
            go_wp2_with fail
            go_end0
            exact ⟨rfl, K3.out⟩
          · have d1 : decide ((i : Int) < (m : Int)) = true := decide_eq_true (by omega)
            have nd1 : i < m := by omega
            have d2 : decide ((m : Int) < (e : Int)) = true := decide_eq_true (by omega)
            have nd2 : m < e := by omega
            have d3 : decide ((a : Int) < (i : Int)) = true := decide_eq_true (by omega)
            have nd3 : a < i := by omega
            have d4 : decide ((i : Int) < (mid : Int)) = true := decide_eq_true (by omega)
            have nd4 : i < mid := by omega
            have d5 : decide ((mid : Int) < (e : Int)) = true := decide_eq_true (by omega)
            have nd5 : mid < e := by omega
            have d6 : decide ((e : Int) < (b : Int)) = false := decide_eq_false (by omega)
            have nd6 : ¬ e < b := by omega
            have FA := Lib.hid (show a ≤ i ∧ i ≤ m ∧ (i < m ∧ m < e) ∧ (a < i ∧ i < mid) ∧ (e = mid ∨ e = b) from by omega)
            have FB := Lib.hid (show mid - a ≤ N ∧ b - mid ≤ N ∧ m ≤ e ∧ e ≤ b ∧ mid ≤ b from ⟨hN2.1, hN2.2, he2.1, he2.2.1, by omega⟩)
            clear hX he he2 hN2 hlt
            have RO := Lib.hid (HROT.out i e wr HSW.out FA.out.2.2.1.1 FA.out.2.2.1.2 FB.out.2.2.2.1)
            unfold fcmp at RO
            go_wp2_with fail
            refine RO.out.mono ?_
            rintro x w1 ⟨rfl, f, hf⟩
            have K1 := Lib.hid (M1.rot hf FA.out.1 FB.out.2.2.2.1 HBD.out)
            clear hf RO
            have R1 := Lib.hid (HIH.out a i mid f w1 FB.out.1 FA.out.2.2.2.1.1 FA.out.2.2.2.1.2 (Nat.le_trans FB.out.2.2.2.2 (by rw [← HSZ.out]; exact HBD.out)) (by rw [K1.out.com.1]; exact HSZ.out) (GN.out.one K1.out).1 (GN.out.one K1.out).2 K1.out.sw)
            unfold fcmp at R1
            go_wp2_with fail
            refine R1.out.mono ?_
            rintro x w2 ⟨rfl, f2, hp2, hs2, hw2⟩
            have K2 := Lib.hid (M2.of K1.out hp2 hs2 hw2)
            clear hp2 hs2 hw2 R1
            have K3 := Lib.hid (GN.out.last HBD.out K2.out FA.out.2.2.2.2)
            go_wp2_with fail
            go_end0
            exact ⟨rfl, K3.out⟩
        · by_cases hq10 : e < b
          · have d1 : decide ((i : Int) < (m : Int)) = true := decide_eq_true (by omega)
            have nd1 : i < m := by omega
            have d2 : decide ((m : Int) < (e : Int)) = true := decide_eq_true (by omega)
            have nd2 : m < e := by omega
            have d3 : decide ((a : Int) < (i : Int)) = false := decide_eq_false (by omega)
            have nd3 : ¬ a < i := by omega
            have d5 : decide ((mid : Int) < (e : Int)) = true := decide_eq_true (by omega)
            have nd5 : mid < e := by omega
            have d6 : decide ((e : Int) < (b : Int)) = true := decide_eq_true (by omega)
            have nd6 : e < b := by omega
            have FA := Lib.hid (show a ≤ i ∧ i ≤ m ∧ (i < m ∧ m < e) ∧ (i = a ∨ i = mid) ∧ (mid < e ∧ e < b) from by omega)
            have FB := Lib.hid (show mid - a ≤ N ∧ b - mid ≤ N ∧ m ≤ e ∧ e ≤ b ∧ mid ≤ b from ⟨hN2.1, hN2.2, he2.1, he2.2.1, by omega⟩)
            clear hX he he2 hN2 hlt
            have RO := Lib.hid (HROT.out i e wr HSW.out FA.out.2.2.1.1 FA.out.2.2.1.2 FB.out.2.2.2.1)
            unfold fcmp at RO
            go_wp2_with fail
            refine RO.out.mono ?_
            rintro x w1 ⟨rfl, f, hf⟩
            have K1 := Lib.hid (M1.rot hf FA.out.1 FB.out.2.2.2.1 HBD.out)
            clear hf RO
            have K2 := Lib.hid (GN.out.skip K1.out FA.out.2.2.2.1)
            have R2 := Lib.hid (HIH.out mid e b f w1 FB.out.2.1 FA.out.2.2.2.2.1 FA.out.2.2.2.2.2 (by rw [← HSZ.out]; exact HBD.out) (by obtain ⟨f1, k1, k2, k3, k4⟩ := K2.out.ex; rw [k3.1, k1.1]; exact HSZ.out) (GN.out.two K2.out).1 (GN.out.two K2.out).2 K2.out.sw)
            unfold fcmp at R2
            go_wp2_with fail
            refine R2.out.mono ?_
            rintro x w3 ⟨rfl, f3, hp3, hs3, hw3⟩
            have K3 := Lib.hid (GN.out.fin HBD.out K2.out hp3 hs3 hw3)
            clear hp3 hs3 hw3 R2
            go_wp2_with fail
            go_end0
            exact ⟨rfl, K3.out⟩
          · have d1 : decide ((i : Int) < (m : Int)) = true := decide_eq_true (by omega)
            have nd1 : i < m := by omega
            have d2 : decide ((m : Int) < (e : Int)) = true := decide_eq_true (by omega)
            have nd2 : m < e := by omega
            have d3 : decide ((a : Int) < (i : Int)) = false := decide_eq_false (by omega)
            have nd3 : ¬ a < i := by omega
            have d5 : decide ((mid : Int) < (e : Int)) = true := decide_eq_true (by omega)
            have nd5 : mid < e := by omega
            have d6 : decide ((e : Int) < (b : Int)) = false := decide_eq_false (by omega)
            have nd6 : ¬ e < b := by omega
            have FA := Lib.hid (show a ≤ i ∧ i ≤ m ∧ (i < m ∧ m < e) ∧ (i = a ∨ i = mid) ∧ (e = mid ∨ e = b) from by omega)
            have FB := Lib.hid (show mid - a ≤ N ∧ b - mid ≤ N ∧ m ≤ e ∧ e ≤ b ∧ mid ≤ b from ⟨hN2.1, hN2.2, he2.1, he2.2.1, by omega⟩)
            clear hX he he2 hN2 hlt
            have RO := Lib.hid (HROT.out i e wr HSW.out FA.out.2.2.1.1 FA.out.2.2.1.2 FB.out.2.2.2.1)
            unfold fcmp at RO
            go_wp2_with fail
            refine RO.out.mono ?_
            rintro x w1 ⟨rfl, f, hf⟩
            have K1 := Lib.hid (M1.rot hf FA.out.1 FB.out.2.2.2.1 HBD.out)
            clear hf RO
            have K2 := Lib.hid (GN.out.skip K1.out FA.out.2.2.2.1)
            have K3 := Lib.hid (GN.out.last HBD.out K2.out FA.out.2.2.2.2)
            go_wp2_with fail
            go_end0
            exact ⟨rfl, K3.out⟩
      · by_cases hq8 : e < b
        · have d1 : decide ((i : Int) < (m : Int)) = true := decide_eq_true (by omega)
          have nd1 : i < m := by omega
          have d2 : decide ((m : Int) < (e : Int)) = false := decide_eq_false (by omega)
          have nd2 : ¬ m < e := by omega
          have d3 : decide ((a : Int) < (i : Int)) = true := decide_eq_true (by omega)
          have nd3 : a < i := by omega
          have d4 : decide ((i : Int) < (mid : Int)) = false := decide_eq_false (by omega)
          have nd4 : ¬ i < mid := by omega
          have d5 : decide ((mid : Int) < (e : Int)) = true := decide_eq_true (by omega)
          have nd5 : mid < e := by omega
          have d6 : decide ((e : Int) < (b : Int)) = true := decide_eq_true (by omega)
          have nd6 : e < b := by omega
          have FA := Lib.hid (show a ≤ i ∧ i ≤ m ∧ (i = m ∨ m = e) ∧ (i = a ∨ i = mid) ∧ (mid < e ∧ e < b) from by omega)
          have FB := Lib.hid (show mid - a ≤ N ∧ b - mid ≤ N ∧ m ≤ e ∧ e ≤ b ∧ mid ≤ b from ⟨hN2.1, hN2.2, he2.1, he2.2.1, by omega⟩)
          clear hX he he2 hN2 hlt
          have K1 := Lib.hid (M1.none (a := a) (b := b) HSW.out FA.out.2.1 FB.out.2.2.1 FA.out.2.2.1)
          have K2 := Lib.hid (GN.out.skip K1.out FA.out.2.2.2.1)
          have R2 := Lib.hid (HIH.out mid e b d wr FB.out.2.1 FA.out.2.2.2.2.1 FA.out.2.2.2.2.2 (by rw [← HSZ.out]; exact HBD.out) (by obtain ⟨f1, k1, k2, k3, k4⟩ := K2.out.ex; rw [k3.1, k1.1]; exact HSZ.out) (GN.out.two K2.out).1 (GN.out.two K2.out).2 K2.out.sw)
          unfold fcmp at R2
          go_wp2_with fail
          refine R2.out.mono ?_
          rintro x w3 ⟨rfl, f3, hp3, hs3, hw3⟩
          have K3 := Lib.hid (GN.out.fin HBD.out K2.out hp3 hs3 hw3)
          clear hp3 hs3 hw3 R2
          go_wp2_with fail
          go_end0
          exact ⟨rfl, K3.out⟩
        · have d1 : decide ((i : Int) < (m : Int)) = true := decide_eq_true (by omega)
          have nd1 : i < m := by omega
          have d2 : decide ((m : Int) < (e : Int)) = false := decide_eq_false (by omega)
          have nd2 : ¬ m < e := by omega
          have d3 : decide ((a : Int) < (i : Int)) = true := decide_eq_true (by omega)
          have nd3 : a < i := by omega
          have d4 : decide ((i : Int) < (mid : Int)) = false := decide_eq_false (by omega)
          have nd4 : ¬ i < mid := by omega
          have d5 : decide ((mid : Int) < (e : Int)) = true := decide_eq_true (by omega)
          have nd5 : mid < e := by omega
          have d6 : decide ((e : Int) < (b : Int)) = false := decide_eq_false (by omega)
          have nd6 : ¬ e < b := by omega
          have FA := Lib.hid (show a ≤ i ∧ i ≤ m ∧ (i = m ∨ m = e) ∧ (i = a ∨ i = mid) ∧ (e = mid ∨ e = b) from by omega)
          have FB := Lib.hid (show mid - a ≤ N ∧ b - mid ≤ N ∧ m ≤ e ∧ e ≤ b ∧ mid ≤ b from ⟨hN2.1, hN2.2, he2.1, he2.2.1, by omega⟩)
          clear hX he he2 hN2 hlt
          have K1 := Lib.hid (M1.none (a := a) (b := b) HSW.out FA.out.2.1 FB.out.2.2.1 FA.out.2.2.1)
          have K2 := Lib.hid (GN.out.skip K1.out FA.out.2.2.2.1)
          have K3 := Lib.hid (GN.out.last HBD.out K2.out FA.out.2.2.2.2)
          go_wp2_with fail
          go_end0
          exact ⟨rfl, K3.out⟩

set_option maxRecDepth 1000000 in
set_option maxHeartbeats 12800000 in
theorem sym_high (cf : Int → Int → Int) (hS : SWO (ltOf cf)) (p g off cap M a m b N : Nat) (d0 d : Array Int) (w0 w : World) (hcmp : CmpLays1 Try.prog 28 #[.pointer (some ⟨p, 0, none⟩)] (Value.int .i64) cf g off d0.size w0) (R : Row1 (Value.int .i64) w0 g off d0) (hs : d0.size = M) (hd : d.size = M) (S : SW (Value.int .i64) w0 g off d w) (ham : a + 1 < m) (hmb : m + 1 < b) (hB : b ≤ M) (hsz : M ≤ 1000) (hN : b - a ≤ N + 1) (hIH : SymIH w0 g off cap M p cf N) (hL : SortedIn (ltOf cf) a m d) (hR : SortedIn (ltOf cf) m b d) (hcase : ¬ (a + b) / 2 < m) :
    Calls Try.prog 39 #[.slice (some ⟨g, off, none⟩) M cap, .int .i64 a, .int .i64 m, .int .i64 b, fcmp p] w (Merged w0 g off cf d a b) := by
  have HM : Aside (M = d.size) := hd.symm
  obtain ⟨t, ht⟩ : ∃ t, t = a + b := ⟨_, rfl⟩
  obtain ⟨mid, hmid⟩ : ∃ mid, mid = t / 2 := ⟨_, rfl⟩
  obtain ⟨n, hn⟩ : ∃ n, n = mid + m := ⟨_, rfl⟩
  obtain ⟨pp, hpp⟩ : ∃ pp, pp + 1 = n := ⟨n - 1, by omega⟩
  obtain ⟨lo, hlo⟩ : ∃ lo, lo = a := ⟨_, rfl⟩
  obtain ⟨hi, hhi⟩ : ∃ hi, hi = m := ⟨_, rfl⟩
  have hdm : decide ((m : Int) > (mid : Int)) = false := decide_eq_false (by omega)
  have hdm2 : ¬ mid < m := by omega
  have HG := Lib.hid (show ∀ s e, lo ≤ s → s ≤ hi → (s = lo ∨ ltOf cf d[n - s]! d[s - 1]! = false) → (s = hi ∨ ltOf cf d[n - 1 - s]! d[s]! = true) → e = n - s → Gen cf d a m b s e mid from fun s e h1 h2 h3 h4 h5 => by
    have em : (a + b) / 2 = mid := by rw [hmid, ht]
    refine ⟨hS, hL, hR, ⟨by omega, by omega, ?_, ?_, ?_, ?_⟩, em.symm, by omega⟩
    all_goals rw [em]
    all_goals rw [em] at hcase
    all_goals first | rw [if_pos hcase] | rw [if_neg hcase]
    · omega
    · omega
    · rw [← hn]; rcases h3 with h3 | h3
      · left; omega
      · exact .inr h3
    · rw [← hn]; rcases h4 with h4 | h4
      · left; omega
      · exact .inr h4)
  have hlo1 : a ≤ lo ∧ n ≤ b + lo ∧ lo ≤ hi ∧ hi ≤ m ∧ hi ≤ mid := by omega
  have S0 : Aside (S3R w0 g off cf d n lo hi (.int .i64 lo) (.int .i64 hi) w) := ⟨lo, hi, rfl, rfl, Nat.le_refl _, hlo1.2.2.1, Nat.le_refl _, .inl rfl, .inl rfl, S⟩
  have HC : Aside _ := hcmp
  have HIH := Lib.hid hIH
  have HROT := Lib.hid (show ∀ s e w, SW (Value.int .i64) w0 g off d w → s < m → m < e → e ≤ b → Calls Try.prog 40 #[.slice (some ⟨g, off, none⟩) M cap, .int .i64 s, .int .i64 m, .int .i64 e, fcmp p] w fun x w' => x = .returned (.tuple #[]) ∧ ∃ f, Led w0 g off d (rotIx s m e) s e f w' from fun s e w hw h1 h2 h3 => by
    have := rotate_any g off cap s m e d0 d w0 w (fcmp p) R (by rw [hs, hd]) hw h1 h2 (by rw [hd]; omega) (by rw [hd]; exact hsz)
    rwa [hd] at this)
  have er := enter_rankcmp
  have mixed := mixed_
  obtain ⟨u1, hu1⟩ : ∃ u, u = m - a := ⟨_, rfl⟩
  have z1 : (m : Int) - (a : Int) = (u1 : Int) := by omega
  have z2 : ((u1 : Int) == 1) = false := by rw [beq_eq_false_iff_ne]; omega
  obtain ⟨u2, hu2⟩ : ∃ u, u = b - m := ⟨_, rfl⟩
  have z3 : (b : Int) - (m : Int) = (u2 : Int) := by omega
  have z4 : ((u2 : Int) == 1) = false := by rw [beq_eq_false_iff_ne]; omega
  have z5 : (a : Int) + (b : Int) = (t : Int) := by omega
  have z6 : (t : Int) / 2 = (mid : Int) := by omega
  have z7 : (mid : Int) + (m : Int) = (n : Int) := by omega
  have z8 : (n : Int) - 1 = (pp : Int) := by omega
  have b1 : t ≤ 2000 := by omega
  have b2 : mid ≤ 1000 := by omega
  have b3 : n ≤ 2000 := by omega
  have b4 : u1 ≤ 1000 := by omega
  have b5 : u2 ≤ 1000 := by omega
  have b6 : lo ≤ 1000 := by omega
  have b7 : hi ≤ 1000 := by omega
  have b8 : pp ≤ 2000 := by omega
  have hA : a ≤ lo := hlo1.1
  have hA2 : n ≤ b + lo := hlo1.2.1
  have hA3 : lo ≤ hi := hlo1.2.2.1
  have hA4 : hi ≤ m := hlo1.2.2.2.1
  have hA5 : hi ≤ mid := hlo1.2.2.2.2
  have HX := Lib.hid (show t = a + b ∧ mid = t / 2 ∧ n = mid + m ∧ pp + 1 = n ∧ (lo = a ∧ hi = m) ∧ d.size = M ∧ m ≤ mid from ⟨ht, hmid, hn, hpp, ⟨hlo, hhi⟩, hd, by omega⟩)
  clear S hcmp hR hS hL hIH hu1 hu2 ht hmid hn hpp hlo hhi hd hlo1 hcase
  unfold fcmp
  go_enter Try.func39, Try.ntmps39
  go_wp2_with fail
  go_loopw [20, 21] (fun i j wr => S3R w0 g off cf d n lo hi i j wr) (fun i j _ => (intOf j).toNat - (intOf i).toNat)
  case atStart => rw [← HX.out.2.2.2.2.1.1, ← HX.out.2.2.2.2.1.2]; exact S0
  case round =>
    clear S0
    obtain ⟨i, j, rfl, rfl, h1, h2, h3, hi1, hj1, S1⟩ := hrel
    by_cases hlt : i < j
    · have hlz : decide ((i : Int) < (j : Int)) = true := decide_eq_true (by omega)
      obtain ⟨s, hs2⟩ : ∃ s, s = i + j := ⟨_, rfl⟩
      obtain ⟨c, hc2⟩ : ∃ c, c = s / 2 := ⟨_, rfl⟩
      have hX := HX.out
      obtain ⟨v, hv⟩ : ∃ v, v + c = pp := ⟨pp - c, by omega⟩
      have hsb : s ≤ 2000 := by omega
      have hhb : c ≤ 1000 := by omega
      have zs : (i : Int) + (j : Int) = (s : Int) := by omega
      have zh : (s : Int) / 2 = (c : Int) := by omega
      have zv : (pp : Int) - (c : Int) = (v : Int) := by omega
      have zw : IntKind.i64.wrap (v : Int) = (v : Int) := by rw [IntKind.wrap_i64]; omega
      have hcM : c < M := by omega
      have hvM : v < M := by omega
      have hvb : v ≤ 1000 := by omega
      have ihj : i ≤ c ∧ c < j := by omega
      have hds : d.size = d0.size := by rw [hs, ← HM]
      obtain ⟨x, hx⟩ : ∃ x, x = d[v]! := ⟨_, rfl⟩
      obtain ⟨y, hy⟩ : ∃ y, y = d[c]! := ⟨_, rfl⟩
      have la := S1.cl R hds v (by rw [← HM]; exact hvM)
      have lb := S1.cl R hds c (by rw [← HM]; exact hcM)
      rw [← hx] at la
      rw [← hy] at lb
      have hc := S1.cmp HC hds x y
      have ev : n - 1 - c = v := by omega
      have ev2 : n - (c + 1) = v := by omega
      cases hlv : ltOf cf d[v]! d[c]! with
      | true =>
        have S3 : ∀ n' os, Aside (S3R w0 g off cf d n lo hi (.int .i64 i) (.int .i64 c) (grow (wr.drewN n') os)) := fun n' os =>
          ⟨i, c, rfl, rfl, h1, ihj.1, by omega, hi1, .inr (by rw [ev]; exact hlv), S1.grown n' os⟩
        have hdd : decide (cf x y < 0) = true := by rw [hx, hy]; exact hlv
        clear hs2 hc2 hv hx hy S1 hi1 hj1 hlv hX ev ev2 hds
        go_wp2_with fail
        go_quiet_grown (first | (go_at_fn 28; refine Calls.grown_of (hc _ _)))
        have S4 := S3 nq osq
        clear la lb hc S3
        generalize grow (wr.drewN nq) osq = w2 at S4 ⊢
        clear nq osq
        go_wp2_with fail
        go_roundw
        case rel => exact S4
        case measure => simp [intOf]; omega
      | false =>
        have S3 : ∀ n' os, Aside (S3R w0 g off cf d n lo hi (.int .i64 ((c : Int) + 1)) (.int .i64 j) (grow (wr.drewN n') os)) := fun n' os =>
          ⟨c + 1, j, by rw [show (c : Int) + 1 = ((c + 1 : Nat) : Int) from by simp], rfl, by omega, by omega, h3, .inr (by rw [ev2, Nat.add_sub_cancel]; exact hlv), hj1, S1.grown n' os⟩
        have hdd : decide (cf x y < 0) = false := by rw [hx, hy]; exact hlv
        clear hs2 hc2 hv hx hy S1 hi1 hj1 hlv hX ev ev2 hds
        go_wp2_with fail
        go_quiet_grown (first | (go_at_fn 28; refine Calls.grown_of (hc _ _)))
        have S4 := S3 nq osq
        clear la lb hc S3
        generalize grow (wr.drewN nq) osq = w2 at S4 ⊢
        clear nq osq
        go_wp2_with fail
        go_roundw
        case rel => exact S4
        case measure => simp [intOf]; omega
    · obtain rfl : i = j := by omega
      have hX := HX.out
      obtain ⟨e, he⟩ : ∃ e, e = n - i := ⟨_, rfl⟩
      have ze : (n : Int) - (i : Int) = (e : Int) := by omega
      have be : e ≤ 1000 := by omega
      have GN := Lib.hid (HG.out i e h1 h3 hi1 hj1 he)
      have hN2 : mid - a ≤ N ∧ b - mid ≤ N := by omega
      have HSW := Lib.hid S1
      have he2 : m ≤ e ∧ e ≤ b ∧ mid ≤ e := by omega
      have hbd : b ≤ d.size := by rw [hX.2.2.2.2.2.1]; exact hB
      have HBD := Lib.hid hbd
      have HSZ := Lib.hid hX.2.2.2.2.2.1
      clear S1 hi1 hj1 HG hbd
      by_cases hq6 : i < m
      · by_cases hq8 : a < i
        · by_cases hq10 : e < b
          · have d1 : decide ((i : Int) < (m : Int)) = true := decide_eq_true (by omega)
            have nd1 : i < m := by omega
            have d2 : decide ((m : Int) < (e : Int)) = true := decide_eq_true (by omega)
            have nd2 : m < e := by omega
            have d3 : decide ((a : Int) < (i : Int)) = true := decide_eq_true (by omega)
            have nd3 : a < i := by omega
            have d4 : decide ((i : Int) < (mid : Int)) = true := decide_eq_true (by omega)
            have nd4 : i < mid := by omega
            have d5 : decide ((mid : Int) < (e : Int)) = true := decide_eq_true (by omega)
            have nd5 : mid < e := by omega
            have d6 : decide ((e : Int) < (b : Int)) = true := decide_eq_true (by omega)
            have nd6 : e < b := by omega
            have FA := Lib.hid (show a ≤ i ∧ i ≤ m ∧ (i < m ∧ m < e) ∧ (a < i ∧ i < mid) ∧ (mid < e ∧ e < b) from by omega)
            have FB := Lib.hid (show mid - a ≤ N ∧ b - mid ≤ N ∧ m ≤ e ∧ e ≤ b ∧ mid ≤ b from ⟨hN2.1, hN2.2, he2.1, he2.2.1, by omega⟩)
            clear hX he he2 hN2 hlt
            have RO := Lib.hid (HROT.out i e wr HSW.out FA.out.2.2.1.1 FA.out.2.2.1.2 FB.out.2.2.2.1)
            unfold fcmp at RO
            go_wp2_with fail
            refine RO.out.mono ?_
            rintro x w1 ⟨rfl, f, hf⟩
            have K1 := Lib.hid (M1.rot hf FA.out.1 FB.out.2.2.2.1 HBD.out)
            clear hf RO
            have R1 := Lib.hid (HIH.out a i mid f w1 FB.out.1 FA.out.2.2.2.1.1 FA.out.2.2.2.1.2 (Nat.le_trans FB.out.2.2.2.2 (by rw [← HSZ.out]; exact HBD.out)) (by rw [K1.out.com.1]; exact HSZ.out) (GN.out.one K1.out).1 (GN.out.one K1.out).2 K1.out.sw)
            unfold fcmp at R1
            go_wp2_with fail
            refine R1.out.mono ?_
            rintro x w2 ⟨rfl, f2, hp2, hs2, hw2⟩
            have K2 := Lib.hid (M2.of K1.out hp2 hs2 hw2)
            clear hp2 hs2 hw2 R1
            have R2 := Lib.hid (HIH.out mid e b f2 w2 FB.out.2.1 FA.out.2.2.2.2.1 FA.out.2.2.2.2.2 (by rw [← HSZ.out]; exact HBD.out) (by obtain ⟨f1, k1, k2, k3, k4⟩ := K2.out.ex; rw [k3.1, k1.1]; exact HSZ.out) (GN.out.two K2.out).1 (GN.out.two K2.out).2 K2.out.sw)
            unfold fcmp at R2
            go_wp2_with fail
            refine R2.out.mono ?_
            rintro x w3 ⟨rfl, f3, hp3, hs3, hw3⟩
            have K3 := Lib.hid (GN.out.fin HBD.out K2.out hp3 hs3 hw3)
            clear hp3 hs3 hw3 R2
            go_wp2_with fail
            go_end0
            exact ⟨rfl, K3.out⟩
          · have d1 : decide ((i : Int) < (m : Int)) = true := decide_eq_true (by omega)
            have nd1 : i < m := by omega
            have d2 : decide ((m : Int) < (e : Int)) = true := decide_eq_true (by omega)
            have nd2 : m < e := by omega
            have d3 : decide ((a : Int) < (i : Int)) = true := decide_eq_true (by omega)
            have nd3 : a < i := by omega
            have d4 : decide ((i : Int) < (mid : Int)) = true := decide_eq_true (by omega)
            have nd4 : i < mid := by omega
            have d5 : decide ((mid : Int) < (e : Int)) = true := decide_eq_true (by omega)
            have nd5 : mid < e := by omega
            have d6 : decide ((e : Int) < (b : Int)) = false := decide_eq_false (by omega)
            have nd6 : ¬ e < b := by omega
            have FA := Lib.hid (show a ≤ i ∧ i ≤ m ∧ (i < m ∧ m < e) ∧ (a < i ∧ i < mid) ∧ (e = mid ∨ e = b) from by omega)
            have FB := Lib.hid (show mid - a ≤ N ∧ b - mid ≤ N ∧ m ≤ e ∧ e ≤ b ∧ mid ≤ b from ⟨hN2.1, hN2.2, he2.1, he2.2.1, by omega⟩)
            clear hX he he2 hN2 hlt
            have RO := Lib.hid (HROT.out i e wr HSW.out FA.out.2.2.1.1 FA.out.2.2.1.2 FB.out.2.2.2.1)
            unfold fcmp at RO
            go_wp2_with fail
            refine RO.out.mono ?_
            rintro x w1 ⟨rfl, f, hf⟩
            have K1 := Lib.hid (M1.rot hf FA.out.1 FB.out.2.2.2.1 HBD.out)
            clear hf RO
            have R1 := Lib.hid (HIH.out a i mid f w1 FB.out.1 FA.out.2.2.2.1.1 FA.out.2.2.2.1.2 (Nat.le_trans FB.out.2.2.2.2 (by rw [← HSZ.out]; exact HBD.out)) (by rw [K1.out.com.1]; exact HSZ.out) (GN.out.one K1.out).1 (GN.out.one K1.out).2 K1.out.sw)
            unfold fcmp at R1
            go_wp2_with fail
            refine R1.out.mono ?_
            rintro x w2 ⟨rfl, f2, hp2, hs2, hw2⟩
            have K2 := Lib.hid (M2.of K1.out hp2 hs2 hw2)
            clear hp2 hs2 hw2 R1
            have K3 := Lib.hid (GN.out.last HBD.out K2.out FA.out.2.2.2.2)
            go_wp2_with fail
            go_end0
            exact ⟨rfl, K3.out⟩
        · by_cases hq10 : e < b
          · have d1 : decide ((i : Int) < (m : Int)) = true := decide_eq_true (by omega)
            have nd1 : i < m := by omega
            have d2 : decide ((m : Int) < (e : Int)) = true := decide_eq_true (by omega)
            have nd2 : m < e := by omega
            have d3 : decide ((a : Int) < (i : Int)) = false := decide_eq_false (by omega)
            have nd3 : ¬ a < i := by omega
            have d5 : decide ((mid : Int) < (e : Int)) = true := decide_eq_true (by omega)
            have nd5 : mid < e := by omega
            have d6 : decide ((e : Int) < (b : Int)) = true := decide_eq_true (by omega)
            have nd6 : e < b := by omega
            have FA := Lib.hid (show a ≤ i ∧ i ≤ m ∧ (i < m ∧ m < e) ∧ (i = a ∨ i = mid) ∧ (mid < e ∧ e < b) from by omega)
            have FB := Lib.hid (show mid - a ≤ N ∧ b - mid ≤ N ∧ m ≤ e ∧ e ≤ b ∧ mid ≤ b from ⟨hN2.1, hN2.2, he2.1, he2.2.1, by omega⟩)
            clear hX he he2 hN2 hlt
            have RO := Lib.hid (HROT.out i e wr HSW.out FA.out.2.2.1.1 FA.out.2.2.1.2 FB.out.2.2.2.1)
            unfold fcmp at RO
            go_wp2_with fail
            refine RO.out.mono ?_
            rintro x w1 ⟨rfl, f, hf⟩
            have K1 := Lib.hid (M1.rot hf FA.out.1 FB.out.2.2.2.1 HBD.out)
            clear hf RO
            have K2 := Lib.hid (GN.out.skip K1.out FA.out.2.2.2.1)
            have R2 := Lib.hid (HIH.out mid e b f w1 FB.out.2.1 FA.out.2.2.2.2.1 FA.out.2.2.2.2.2 (by rw [← HSZ.out]; exact HBD.out) (by obtain ⟨f1, k1, k2, k3, k4⟩ := K2.out.ex; rw [k3.1, k1.1]; exact HSZ.out) (GN.out.two K2.out).1 (GN.out.two K2.out).2 K2.out.sw)
            unfold fcmp at R2
            go_wp2_with fail
            refine R2.out.mono ?_
            rintro x w3 ⟨rfl, f3, hp3, hs3, hw3⟩
            have K3 := Lib.hid (GN.out.fin HBD.out K2.out hp3 hs3 hw3)
            clear hp3 hs3 hw3 R2
            go_wp2_with fail
            go_end0
            exact ⟨rfl, K3.out⟩
          · have d1 : decide ((i : Int) < (m : Int)) = true := decide_eq_true (by omega)
            have nd1 : i < m := by omega
            have d2 : decide ((m : Int) < (e : Int)) = true := decide_eq_true (by omega)
            have nd2 : m < e := by omega
            have d3 : decide ((a : Int) < (i : Int)) = false := decide_eq_false (by omega)
            have nd3 : ¬ a < i := by omega
            have d5 : decide ((mid : Int) < (e : Int)) = true := decide_eq_true (by omega)
            have nd5 : mid < e := by omega
            have d6 : decide ((e : Int) < (b : Int)) = false := decide_eq_false (by omega)
            have nd6 : ¬ e < b := by omega
            have FA := Lib.hid (show a ≤ i ∧ i ≤ m ∧ (i < m ∧ m < e) ∧ (i = a ∨ i = mid) ∧ (e = mid ∨ e = b) from by omega)
            have FB := Lib.hid (show mid - a ≤ N ∧ b - mid ≤ N ∧ m ≤ e ∧ e ≤ b ∧ mid ≤ b from ⟨hN2.1, hN2.2, he2.1, he2.2.1, by omega⟩)
            clear hX he he2 hN2 hlt
            have RO := Lib.hid (HROT.out i e wr HSW.out FA.out.2.2.1.1 FA.out.2.2.1.2 FB.out.2.2.2.1)
            unfold fcmp at RO
            go_wp2_with fail
            refine RO.out.mono ?_
            rintro x w1 ⟨rfl, f, hf⟩
            have K1 := Lib.hid (M1.rot hf FA.out.1 FB.out.2.2.2.1 HBD.out)
            clear hf RO
            have K2 := Lib.hid (GN.out.skip K1.out FA.out.2.2.2.1)
            have K3 := Lib.hid (GN.out.last HBD.out K2.out FA.out.2.2.2.2)
            go_wp2_with fail
            go_end0
            exact ⟨rfl, K3.out⟩
      · by_cases hq8 : i < mid
        · have d1 : decide ((i : Int) < (m : Int)) = false := decide_eq_false (by omega)
          have nd1 : ¬ i < m := by omega
          have d3 : decide ((a : Int) < (i : Int)) = true := decide_eq_true (by omega)
          have nd3 : a < i := by omega
          have d4 : decide ((i : Int) < (mid : Int)) = true := decide_eq_true (by omega)
          have nd4 : i < mid := by omega
          have d5 : decide ((mid : Int) < (e : Int)) = false := decide_eq_false (by omega)
          have nd5 : ¬ mid < e := by omega
          have FA := Lib.hid (show a ≤ i ∧ i ≤ m ∧ (i = m ∨ m = e) ∧ (a < i ∧ i < mid) ∧ (e = mid ∨ e = b) from by omega)
          have FB := Lib.hid (show mid - a ≤ N ∧ b - mid ≤ N ∧ m ≤ e ∧ e ≤ b ∧ mid ≤ b from ⟨hN2.1, hN2.2, he2.1, he2.2.1, by omega⟩)
          clear hX he he2 hN2 hlt
          have K1 := Lib.hid (M1.none (a := a) (b := b) HSW.out FA.out.2.1 FB.out.2.2.1 FA.out.2.2.1)
          have R1 := Lib.hid (HIH.out a i mid d wr FB.out.1 FA.out.2.2.2.1.1 FA.out.2.2.2.1.2 (Nat.le_trans FB.out.2.2.2.2 (by rw [← HSZ.out]; exact HBD.out)) (by rw [K1.out.com.1]; exact HSZ.out) (GN.out.one K1.out).1 (GN.out.one K1.out).2 K1.out.sw)
          unfold fcmp at R1
          go_wp2_with fail
          refine R1.out.mono ?_
          rintro x w2 ⟨rfl, f2, hp2, hs2, hw2⟩
          have K2 := Lib.hid (M2.of K1.out hp2 hs2 hw2)
          clear hp2 hs2 hw2 R1
          have K3 := Lib.hid (GN.out.last HBD.out K2.out FA.out.2.2.2.2)
          go_wp2_with fail
          go_end0
          exact ⟨rfl, K3.out⟩
        · have d1 : decide ((i : Int) < (m : Int)) = false := decide_eq_false (by omega)
          have nd1 : ¬ i < m := by omega
          have d3 : decide ((a : Int) < (i : Int)) = true := decide_eq_true (by omega)
          have nd3 : a < i := by omega
          have d4 : decide ((i : Int) < (mid : Int)) = false := decide_eq_false (by omega)
          have nd4 : ¬ i < mid := by omega
          have d5 : decide ((mid : Int) < (e : Int)) = false := decide_eq_false (by omega)
          have nd5 : ¬ mid < e := by omega
          have FA := Lib.hid (show a ≤ i ∧ i ≤ m ∧ (i = m ∨ m = e) ∧ (i = a ∨ i = mid) ∧ (e = mid ∨ e = b) from by omega)
          have FB := Lib.hid (show mid - a ≤ N ∧ b - mid ≤ N ∧ m ≤ e ∧ e ≤ b ∧ mid ≤ b from ⟨hN2.1, hN2.2, he2.1, he2.2.1, by omega⟩)
          clear hX he he2 hN2 hlt
          have K1 := Lib.hid (M1.none (a := a) (b := b) HSW.out FA.out.2.1 FB.out.2.2.1 FA.out.2.2.1)
          have K2 := Lib.hid (GN.out.skip K1.out FA.out.2.2.2.1)
          have K3 := Lib.hid (GN.out.last HBD.out K2.out FA.out.2.2.2.2)
          go_wp2_with fail
          go_end0
          exact ⟨rfl, K3.out⟩

/-- The merge in place of two sorted pieces. -/
theorem sym_any (cf : Int → Int → Int) (hS : SWO (ltOf cf)) (p g off cap M : Nat) (d0 : Array Int) (w0 : World) (hcmp : CmpLays1 Try.prog 28 #[.pointer (some ⟨p, 0, none⟩)] (Value.int .i64) cf g off d0.size w0) (R : Row1 (Value.int .i64) w0 g off d0) (hs : d0.size = M) (hsz : M ≤ 1000) : ∀ N, SymIH w0 g off cap M p cf N
  | 0 => fun a m b d w h1 h2 h3 _ _ _ _ _ => by omega
  | N + 1 => fun a m b d w h1 h2 h3 h4 h5 h6 h7 h8 => by
    by_cases ha : m = a + 1
    · have := sym_one cf hS p g off cap a m b d0 d w0 w hcmp R (by rw [hs, h5]) h8 ha h3 (by rw [h5]; exact h4) (by rw [h5]; exact hsz) h7
      rwa [h5] at this
    · by_cases hb : b = m + 1
      · have := sym_two cf hS p g off cap a m b d0 d w0 w hcmp R (by rw [hs, h5]) h8 (by omega) hb (by rw [h5]; exact h4) (by rw [h5]; exact hsz) h6
        rwa [h5] at this
      · have hI := sym_any cf hS p g off cap M d0 w0 hcmp R hs hsz N
        by_cases hc : (a + b) / 2 < m
        · exact sym_low cf hS p g off cap M a m b N d0 d w0 w hcmp R hs h5 h8 (by omega) (by omega) h4 hsz h1 hI h6 h7 hc
        · exact sym_high cf hS p g off cap M a m b N d0 d w0 w hcmp R hs h5 h8 (by omega) (by omega) h4 hsz h1 hI h6 h7 hc

end Go.Proofs.Ytmjaompepchieaa
