/- The walk of the law PickKnown. -/
import Derived.Test.YtmjaompepchieaaPkT
import Derived.Test.YtmjaompepchieaaRows
import Derived.Test.YtmjaompepchieaaChecked
set_option linter.unusedSimpArgs false
set_option linter.unusedVariables false
namespace Go.Proofs.Ytmjaompepchieaa
open Go.RowKit Go.ChangeShapes Go.WideShapes Go.Sort

def rw123 : Obj := .cells #[.int .i64 1, .int .i64 2, .int .i64 3] 3
def rw7 : Obj := .cells #[.int .i64 7] 3
def rw21 : Obj := .cells #[.int .i64 2, .int .i64 1] 3
def rw01 : Obj := .cells #[.int .i64 0, .int .i64 1] 3
def rw25 : Obj := .cells #[.int .i64 25] 3
def rw3 : Obj := .cells #[.int .i64 3] 3
def rw12 : Obj := .cells #[.int .i64 1, .int .i64 2] 3
def rw1 : Obj := .cells #[.int .i64 1] 3
def rw321 : Obj := .cells #[.int .i64 3, .int .i64 2, .int .i64 1] 3
def rw132 : Obj := .cells #[.int .i64 1, .int .i64 3, .int .i64 2] 3
def rw604 : Obj := .cells #[.int .i64 6, .int .i64 0, .int .i64 4] 3
def rw10 : Obj := .cells #[.int .i64 10] 3

/-- What is there while the examples are tried. -/
structure Kn (W V : World) (vs : List (Value × List Int)) : Prop where
  bel : Below W.heap.size W V
  live : ∀ q ∈ vs, Lst V q.1 q.2
theorem Kn.later {W V X : World} {vs : List (Value × List Int)} (h : Kn W V vs) (hb : Below V.heap.size V X) : Kn W X vs := ⟨h.bel.trans (hb.mono h.bel.size), fun q hq => (h.live q hq).later hb⟩
theorem Kn.more {W V : World} {vs : List (Value × List Int)} (h : Kn W V vs) {v : Value} {l : List Int} (hv : Lst V v l) : Kn W V ((v, l) :: vs) := ⟨h.bel, fun q hq => by
  rcases List.mem_cons.1 hq with rfl | hq
  · exact hv
  · exact h.live q hq⟩
theorem Kn.new {W V : World} {vs : List (Value × List Int)} (h : Kn W V vs) (o : Obj) : Kn W (V.alloc o) vs := h.later ((Below.refl _ _).alloc (Nat.le_refl _) _)
/-- A list and an error answered. -/
def LE (V : World) (l : List Int) (e : Int) (x : Ending) (X : World) : Prop := ∃ v, x = .returned (.tuple #[v, .int .i64 e]) ∧ Lst X v l ∧ Below V.heap.size V X
theorem LE.of {V V1 X : World} {x : Ending} {r s : List Int × Int} (h0 : Below V.heap.size V V1) (h : ∃ v, x = .returned (.tuple #[v, .int .i64 r.2]) ∧ Own V1.heap.size X v r.1 ∧ Below V1.heap.size V1 X) (hr : r = s) : LE V s.1 s.2 x X := by
  subst hr
  obtain ⟨v, h1, h2, h3⟩ := h
  exact ⟨v, h1, h2.1, h0.trans (h3.mono h0.size)⟩
/-- Two numbers answered. -/
def NE (V : World) (n e : Int) (x : Ending) (X : World) : Prop := x = .returned (.tuple #[.int .i64 n, .int .i64 e]) ∧ Below V.heap.size V X
theorem NE.of {V V1 X : World} {x : Ending} {r s : Int × Int} (h0 : Below V.heap.size V V1) (h : x = .returned (.tuple #[.int .i64 r.1, .int .i64 r.2]) ∧ Gr V1 X) (hr : r = s) : NE V s.1 s.2 x X := by
  subst hr
  exact ⟨h.1, h0.trans (h.2.below.mono h0.size)⟩
theorem al (V : World) (o : Obj) : Below V.heap.size V (V.alloc o) := (Below.refl _ _).alloc (Nat.le_refl _) _
def SE (V : World) (b : Bool) (x : Ending) (X : World) : Prop := x = .returned (.bool b) ∧ Below V.heap.size V X
theorem SE.of {V V1 X : World} {x : Ending} {b : Bool} (h0 : Below V.heap.size V V1) (h : x = .returned (.bool b) ∧ ∃ q, X = V1.drewN q) : SE V b x X := by
  obtain ⟨h1, q, rfl⟩ := h
  exact ⟨h1, h0.trans ⟨rfl, rfl, rfl, Nat.le_refl _, fun _ _ => rfl⟩⟩

theorem rkz0_1x2x3 : rkz 0 [1, 2, 3] = ([3, 2, 1], 0) := by
  unfold rkz
  rw [if_pos (by decide +kernel), rk_eq (m := [3, 2, 1]) (by decide) (by decide) (by decide) (by decide +kernel)]
theorem rkz1_1x2x3 : rkz 1 [1, 2, 3] = ([1, 3, 2], 0) := by
  unfold rkz
  rw [if_pos (by decide +kernel), rk_eq (m := [1, 3, 2]) (by decide) (by decide) (by decide) (by decide +kernel)]
theorem rkz5_25 : rkz 5 [25] = ([], 2) := by decide +kernel
theorem spz_123 : spz [1, 2, 3] (10) = ([6, 0, 4], 0) := by decide +kernel
theorem spz_3 : spz [3] (10) = ([10], 0) := by decide +kernel
theorem spz_nil : spz [] (5) = ([], 0) := by decide +kernel
theorem spz_12 : spz [1, 2] (4097) = ([], 3) := by decide +kernel
theorem spz_1 : spz [1] (-1) = ([], 2) := by decide +kernel
theorem chz5_7 : chz 5 [7] = (7, 0) := by decide +kernel
theorem chz5_nil : chz 5 [] = (0, 6) := by decide +kernel
theorem chz5_21 : chz 5 [2, 1] = (0, 2) := by decide +kernel
theorem chz5_01 : chz 5 [0, 1] = (0, 2) := by decide +kernel
theorem key_0_0 : key 0 0 = 0 := by decide +kernel
theorem key_0_1 : key 0 1 = 301794027 := by decide +kernel
theorem key_1_0 : key 1 0 = 1364076727 := by decide +kernel

set_option maxRecDepth 100000 in
set_option maxHeartbeats 12800000 in
theorem pickKnown_walk (W : World) : Calls Try.prog 8 #[] W fun e W' => e = .returned (.bool true) ∧ Below W.heap.size W W' := by
  have HA := Lib.hid (show Kn W (W.alloc rw123) [(.slice (some ⟨W.heap.size, 0, none⟩) 3 3, [1, 2, 3])] from ((show Kn W W [] from ⟨Below.refl _ _, by simp⟩).new _).more (Lst.new W [1, 2, 3] (by decide)))
  have HR0 := Lib.hid (show ∀ (V : World) v, Lst V v [1, 2, 3] → Calls Try.prog 11 #[.int .u32 0, v] V (LE V [3, 2, 1] 0) from fun V v h => (prank_any stab20 0 [1, 2, 3] v V (by decide) h (fun _ => by decide)).mono fun x X h => LE.of (Below.refl _ _) h rkz0_1x2x3)
  have HR1 := Lib.hid (show ∀ (V : World) v, Lst V v [1, 2, 3] → Calls Try.prog 11 #[.int .u32 1, v] V (LE V [1, 3, 2] 0) from fun V v h => (prank_any stab20 1 [1, 2, 3] v V (by decide) h (fun _ => by decide)).mono fun x X h => LE.of (Below.refl _ _) h rkz1_1x2x3)
  have HR2 := Lib.hid (show ∀ (V : World), Calls Try.prog 11 #[.int .u32 5, .slice (some ⟨V.heap.size, 0, none⟩) 1 1] (V.alloc rw25) (LE V [] 2) from fun V => (prank_any stab20 5 [25] _ (V.alloc rw25) (by decide) (Lst.new V [25] (by decide)) (fun _ => by decide)).mono fun x X h => LE.of (al _ _) h rkz5_25)
  have HP0 := Lib.hid (show ∀ (V : World) v, Lst V v [1, 2, 3] → Calls Try.prog 19 #[v, .int .i64 10] V (LE V [6, 0, 4] 0) from fun V v h => (spread_any [1, 2, 3] 10 v V h ⟨by decide, by decide⟩).mono fun x X h => LE.of (Below.refl _ _) h spz_123)
  have HP1 := Lib.hid (show ∀ (V : World), Calls Try.prog 19 #[.slice (some ⟨V.heap.size, 0, none⟩) 1 1, .int .i64 (10)] (V.alloc rw3) (LE V [10] 0) from fun V => (spread_any [3] (10) _ (V.alloc rw3) (Lst.new V [3] (by decide)) ⟨by decide, by decide⟩).mono fun x X h => LE.of (al _ _) h spz_3)
  have HP3 := Lib.hid (show ∀ (V : World), Calls Try.prog 19 #[.slice (some ⟨V.heap.size, 0, none⟩) 2 2, .int .i64 (4097)] (V.alloc rw12) (LE V [] 3) from fun V => (spread_any [1, 2] (4097) _ (V.alloc rw12) (Lst.new V [1, 2] (by decide)) ⟨by decide, by decide⟩).mono fun x X h => LE.of (al _ _) h spz_12)
  have HP4 := Lib.hid (show ∀ (V : World), Calls Try.prog 19 #[.slice (some ⟨V.heap.size, 0, none⟩) 1 1, .int .i64 (-1)] (V.alloc rw1) (LE V [] 2) from fun V => (spread_any [1] (-1) _ (V.alloc rw1) (Lst.new V [1] (by decide)) ⟨by decide, by decide⟩).mono fun x X h => LE.of (al _ _) h spz_1)
  have HP2 := Lib.hid (show ∀ (V : World), Calls Try.prog 19 #[.slice none 0 0, .int .i64 5] V (LE V [] 0) from fun V => (spread_any [] 5 _ V (Lst.nil_ V) ⟨by decide, by decide⟩).mono fun x X h => LE.of (Below.refl _ _) h spz_nil)
  have HC0 := Lib.hid (show ∀ (V : World), Calls Try.prog 9 #[.int .u32 5, .slice (some ⟨V.heap.size, 0, none⟩) 1 1] (V.alloc rw7) (NE V 7 0) from fun V => (choose_any 5 [7] _ (V.alloc rw7) (by decide) (Lst.new V [7] (by decide))).mono fun x X h => NE.of (al _ _) h chz5_7)
  have HC2 := Lib.hid (show ∀ (V : World), Calls Try.prog 9 #[.int .u32 5, .slice (some ⟨V.heap.size, 0, none⟩) 2 2] (V.alloc rw21) (NE V 0 2) from fun V => (choose_any 5 [2, 1] _ (V.alloc rw21) (by decide) (Lst.new V [2, 1] (by decide))).mono fun x X h => NE.of (al _ _) h chz5_21)
  have HC3 := Lib.hid (show ∀ (V : World), Calls Try.prog 9 #[.int .u32 5, .slice (some ⟨V.heap.size, 0, none⟩) 2 2] (V.alloc rw01) (NE V 0 2) from fun V => (choose_any 5 [0, 1] _ (V.alloc rw01) (by decide) (Lst.new V [0, 1] (by decide))).mono fun x X h => NE.of (al _ _) h chz5_01)
  have HC1 := Lib.hid (show ∀ (V : World), Calls Try.prog 9 #[.int .u32 5, .slice none 0 0] V (NE V 0 6) from fun V => (choose_any 5 [] _ V (by decide) (Lst.nil_ V)).mono fun x X h => NE.of (Below.refl _ _) h chz5_nil)
  have HS0 := Lib.hid (show ∀ (V : World) v, Lst V v [3, 2, 1] → Calls Try.prog 18 #[v, .slice (some ⟨V.heap.size, 0, none⟩) 3 3] (V.alloc rw321) (SE V true) from fun V v h => (same_any [3, 2, 1] [3, 2, 1] _ _ (V.alloc rw321) (h.later (al _ _)) (Lst.new V [3, 2, 1] (by decide))).mono fun x X h => SE.of (al _ _) h)
  have HS1 := Lib.hid (show ∀ (V : World) v, Lst V v [1, 3, 2] → Calls Try.prog 18 #[v, .slice (some ⟨V.heap.size, 0, none⟩) 3 3] (V.alloc rw132) (SE V true) from fun V v h => (same_any [1, 3, 2] [1, 3, 2] _ _ (V.alloc rw132) (h.later (al _ _)) (Lst.new V [1, 3, 2] (by decide))).mono fun x X h => SE.of (al _ _) h)
  have HS2 := Lib.hid (show ∀ (V : World) v, Lst V v [6, 0, 4] → Calls Try.prog 18 #[v, .slice (some ⟨V.heap.size, 0, none⟩) 3 3] (V.alloc rw604) (SE V true) from fun V v h => (same_any [6, 0, 4] [6, 0, 4] _ _ (V.alloc rw604) (h.later (al _ _)) (Lst.new V [6, 0, 4] (by decide))).mono fun x X h => SE.of (al _ _) h)
  have HS3 := Lib.hid (show ∀ (V : World) v, Lst V v [10] → Calls Try.prog 18 #[v, .slice (some ⟨V.heap.size, 0, none⟩) 1 1] (V.alloc rw10) (SE V true) from fun V v h => (same_any [10] [10] _ _ (V.alloc rw10) (h.later (al _ _)) (Lst.new V [10] (by decide))).mono fun x X h => SE.of (al _ _) h)
  have HM00 := Lib.hid (show ∀ (V : World), Calls Try.prog 14 #[.int .u32 0, .int .i64 0] V fun x X => x = .returned (.int .u32 0) ∧ V = X from fun V => by have h := mix_any 0 0 V (by decide); rw [key_0_0] at h; exact h)
  have HM01 := Lib.hid (show ∀ (V : World), Calls Try.prog 14 #[.int .u32 0, .int .i64 1] V fun x X => x = .returned (.int .u32 301794027) ∧ V = X from fun V => by have h := mix_any 0 1 V (by decide); rw [key_0_1] at h; exact h)
  have HM10 := Lib.hid (show ∀ (V : World), Calls Try.prog 14 #[.int .u32 1, .int .i64 0] V fun x X => x = .returned (.int .u32 1364076727) ∧ V = X from fun V => by have h := mix_any 1 0 V (by decide); rw [key_1_0] at h; exact h)
  go_enter Try.func8, Try.ntmps8
  go_wp2_with fail
  refine (HR0.out _ _ (HA.out.live _ (.head _))).mono ?_
  rintro x V1 ⟨v, rfl, h1, h2⟩
  obtain ⟨a1, cap1, rfl, _, _, _⟩ := h1.shape
  have HK1 := Lib.hid ((HA.out.later h2).more h1)
  clear h1 h2 HA
  go_wp2_with fail
  refine (HR1.out _ _ (HK1.out.live _ (.tail _ (.head _)))).mono ?_
  rintro x V2 ⟨v, rfl, h1, h2⟩
  obtain ⟨a2, cap2, rfl, _, _, _⟩ := h1.shape
  have HK2 := Lib.hid ((HK1.out.later h2).more h1)
  clear h1 h2 HK1
  go_wp2_with fail
  refine (HP0.out _ _ (HK2.out.live _ (.tail _ (.tail _ (.head _))))).mono ?_
  rintro x V3 ⟨v, rfl, h1, h2⟩
  obtain ⟨a3, cap3, rfl, _, _, _⟩ := h1.shape
  have HK3 := Lib.hid ((HK2.out.later h2).more h1)
  clear h1 h2 HK2
  go_wp2_with fail
  refine (HC0.out _).mono ?_
  rintro x V4 ⟨rfl, h2⟩
  have HK4 := Lib.hid (HK3.out.later h2)
  clear h2 HK3
  go_wp2_with fail
  refine (HC1.out _).mono ?_
  rintro x V5 ⟨rfl, h2⟩
  have HK5 := Lib.hid (HK4.out.later h2)
  clear h2 HK4
  go_wp2_with fail
  refine (HC2.out _).mono ?_
  rintro x V6 ⟨rfl, h2⟩
  have HK6 := Lib.hid (HK5.out.later h2)
  clear h2 HK5
  go_wp2_with fail
  refine (HC3.out _).mono ?_
  rintro x V7 ⟨rfl, h2⟩
  have HK7 := Lib.hid (HK6.out.later h2)
  clear h2 HK6
  go_wp2_with fail
  refine (HR2.out _).mono ?_
  rintro x V8 ⟨v, rfl, h1, h2⟩
  obtain ⟨a8, cap8, rfl, _, _, _⟩ := h1.shape
  have HK8 := Lib.hid ((HK7.out.later h2).more h1)
  clear h1 h2 HK7
  go_wp2_with fail
  refine (HP1.out _).mono ?_
  rintro x V9 ⟨v, rfl, h1, h2⟩
  obtain ⟨a9, cap9, rfl, _, _, _⟩ := h1.shape
  have HK9 := Lib.hid ((HK8.out.later h2).more h1)
  clear h1 h2 HK8
  go_wp2_with fail
  refine (HP2.out _).mono ?_
  rintro x V10 ⟨v, rfl, h1, h2⟩
  obtain ⟨a10, cap10, rfl, _, _, _⟩ := h1.shape
  have HK10 := Lib.hid ((HK9.out.later h2).more h1)
  clear h1 h2 HK9
  go_wp2_with fail
  refine (HP3.out _).mono ?_
  rintro x V11 ⟨v, rfl, h1, h2⟩
  obtain ⟨a11, cap11, rfl, _, _, _⟩ := h1.shape
  have HK11 := Lib.hid ((HK10.out.later h2).more h1)
  clear h1 h2 HK10
  go_wp2_with fail
  refine (HP4.out _).mono ?_
  rintro x V12 ⟨v, rfl, h1, h2⟩
  obtain ⟨a12, cap12, rfl, _, _, _⟩ := h1.shape
  have HK12 := Lib.hid ((HK11.out.later h2).more h1)
  clear h1 h2 HK11
  go_wp2_with fail
  refine (works_any _).mono ?_
  rintro x V13 ⟨rfl, h2⟩
  have HK13 := Lib.hid (HK12.out.later h2)
  clear h2 HK12
  go_wp2_with fail
  refine (HS0.out _ _ (HK13.out.live _ (.tail _ (.tail _ (.tail _ (.tail _ (.tail _ (.tail _ (.tail _ (.head _)))))))))).mono ?_
  rintro x V14 ⟨rfl, h2⟩
  have HK14 := Lib.hid (HK13.out.later h2)
  clear h2 HK13
  go_wp2_with fail
  refine (HS1.out _ _ (HK14.out.live _ (.tail _ (.tail _ (.tail _ (.tail _ (.tail _ (.tail _ (.head _))))))))).mono ?_
  rintro x V15 ⟨rfl, h2⟩
  have HK15 := Lib.hid (HK14.out.later h2)
  clear h2 HK14
  go_wp2_with fail
  refine (HS2.out _ _ (HK15.out.live _ (.tail _ (.tail _ (.tail _ (.tail _ (.tail _ (.head _)))))))).mono ?_
  rintro x V16 ⟨rfl, h2⟩
  have HK16 := Lib.hid (HK15.out.later h2)
  clear h2 HK15
  go_wp2_with fail
  refine (HS3.out _ _ (HK16.out.live _ (.tail _ (.tail _ (.tail _ (.head _)))))).mono ?_
  rintro x V17 ⟨rfl, h2⟩
  have HK17 := Lib.hid (HK16.out.later h2)
  clear h2 HK16
  go_wp2_with fail
  refine (HM00.out _).mono ?_
  rintro x V18 ⟨rfl, rfl⟩
  go_wp2_with fail
  refine (HM01.out _).mono ?_
  rintro x V19 ⟨rfl, rfl⟩
  go_wp2_with fail
  refine (HM10.out _).mono ?_
  rintro x V20 ⟨rfl, rfl⟩
  go_wp2_with fail
  go_returns
  exact ⟨rfl, HK17.out.bel⟩

end Go.Proofs.Ytmjaompepchieaa
