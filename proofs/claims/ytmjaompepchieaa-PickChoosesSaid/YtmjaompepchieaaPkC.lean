/- Contracts of the best one: the reference's, and the program's by slices.MaxFunc. -/
import Derived.Test.YtmjaompepchieaaPkB
set_option linter.unusedSimpArgs false
set_option linter.unusedVariables false
namespace Go.Proofs.Ytmjaompepchieaa
open Go.RowKit Go.ChangeShapes Go.WideShapes Go.Sort

/-- A later world: draws, and blocks behind. -/
def Gr (W V : World) : Prop := ∃ q os, V = grow (W.drewN q) os
theorem Gr.refl (W : World) : Gr W W := ⟨0, #[], by rw [grow_empty]; rfl⟩
theorem Gr.alloc {W V : World} (h : Gr W V) (o : Obj) : Gr W (V.alloc o) := by
  obtain ⟨q, os, rfl⟩ := h
  exact ⟨q, os ++ #[o], by rw [alloc_eq_grow, grow_grow]⟩
theorem Gr.drewN {W V : World} (h : Gr W V) (n : Nat) : Gr W (V.drewN n) := by
  obtain ⟨q, os, rfl⟩ := h
  exact ⟨q + n, os, by rw [← World.drewN_drewN]; rfl⟩
theorem Gr.drew {W V : World} (h : Gr W V) : Gr W V.drew := h.drewN 1
theorem Gr.trans {W V X : World} (h : Gr W V) (h2 : Gr V X) : Gr W X := by
  obtain ⟨q, os, rfl⟩ := h
  obtain ⟨q2, os2, rfl⟩ := h2
  exact ⟨q + q2, os ++ os2, by rw [← grow_grow, ← World.drewN_drewN]; rfl⟩
theorem Gr.size {W V : World} (h : Gr W V) : W.heap.size ≤ V.heap.size := by
  obtain ⟨q, os, rfl⟩ := h
  rw [size_grow]; exact Nat.le_add_right _ _
theorem Gr.cell {W V : World} (h : Gr W V) (a : Addr) (ha : a.block < W.heap.size) : V.cell? a = W.cell? a := by
  obtain ⟨q, os, rfl⟩ := h
  exact cell?_grow _ _ _ ha
theorem Gr.below {W V : World} (h : Gr W V) : Below W.heap.size W V := by
  obtain ⟨q, os, rfl⟩ := h
  exact ⟨rfl, rfl, rfl, by rw [size_grow]; exact Nat.le_add_right _ _, fun k hk => heap_grow_old (W.drewN q) os hk⟩

/-- Is the first better than the second? -/
def bet (e : Nat) (x m : Int) : Bool := decide (key e m < key e x)
/-- The best of the first i + 1. -/
def pk (e : Nat) (l : List Int) : Nat → Int
  | 0 => l.getD 0 0
  | i + 1 => if bet e (l.getD (i + 1) 0) (pk e l i) = true then l.getD (i + 1) 0 else pk e l i
def bst (e : Nat) (l : List Int) : Int := pk e l (l.length - 1)

def BsRel (e : Nat) (l : List Int) (W : World) (b i : Value) (wr : World) : Prop := wr = W ∧ ∃ k : Nat, i = .int .i64 ((k : Int) + 1) ∧ k < l.length ∧ b = .int .i64 (pk e l k)

set_option maxHeartbeats 1600000 in
theorem rbest_any (e : Nat) (l : List Int) (v : Value) (W : World) (he : e < 4294967296) (h : Lst W v l) (h0 : 0 < l.length) : Calls Try.prog 25 #[.int .u32 e, v] W fun x W' => x = .returned (.int .i64 (bst e l)) ∧ W = W' := by
  obtain ⟨g, off, cap, rfl, hs, _, _, _, hcells⟩ := h.form h0
  have HCE := Lib.hid hcells
  have c0 := (hcells 0 h0).1
  rw [Nat.add_zero] at c0
  obtain ⟨z0, hz0⟩ : ∃ z, z = l.getD 0 0 := ⟨_, rfl⟩
  rw [← hz0] at c0
  have HB0 := Lib.hid (show BsRel e l W (.int .i64 z0) (.int .i64 1) W from ⟨rfl, 0, rfl, h0, by rw [hz0]; rfl⟩)
  clear hcells h hz0
  go_enter Try.func25, Try.ntmps25
  go_wp2_with fail
  go_loopw [5, 6] (fun b i wr => BsRel e l W b i wr) (fun _ i _ => l.length - (intOf i).toNat)
  case atStart => exact HB0.out
  case round =>
    clear c0
    obtain ⟨rfl, k, rfl, hk, rfl⟩ := hrel
    by_cases hlt : k + 1 < l.length
    · have hc := (HCE.out (k + 1) hlt).1
      obtain ⟨x, hx⟩ : ∃ x, x = l.getD (k + 1) 0 := ⟨_, rfl⟩
      obtain ⟨m, hm⟩ : ∃ m, m = pk e l k := ⟨_, rfl⟩
      rw [← hx] at hc
      rw [← hm]
      have hp : pk e l (k + 1) = if bet e x m = true then x else m := by rw [hx, hm]; rfl
      have R1 := Lib.hid (fun V => rank_any e x V he)
      have M1 := Lib.hid (fun V => rmix_any e x V he)
      have M2 := Lib.hid (fun V => rmix_any e m V he)
      have hlz : decide ((k : Int) + 1 < (l.length : Int)) = true := decide_eq_true (by omega)
      cases hb : bet e x m with
      | true =>
        rw [hb, if_pos rfl] at hp
        have d1 : decide (key e m < key e x) = true := hb
        have HREL := Lib.hid (show BsRel e l wr (.int .i64 x) (.int .i64 ((k : Int) + 1 + 1)) wr from ⟨rfl, k + 1, by rfl, hlt, by rw [hp]⟩)
        generalize key e m = km at *
        generalize key e x = kx at *
        clear hp hx hm hb
        go_wp2_with fail
        refine (M1.out _).mono ?_
        rintro y w ⟨rfl, rfl⟩
        go_wp2_with fail
        refine (M2.out _).mono ?_
        rintro y w ⟨rfl, rfl⟩
        go_wp2_with fail
        go_roundw
        case rel => first | exact HREL.out | exact ⟨_, _, HREL.out, rfl⟩ | ((repeat apply Exists.intro); exact ⟨HREL.out, rfl⟩)
        case measure => simp [intOf]; omega
      | false =>
        rw [hb, if_neg (by simp)] at hp
        have d1 : decide (key e m < key e x) = false := hb
        have HREL := Lib.hid (show BsRel e l wr (.int .i64 m) (.int .i64 ((k : Int) + 1 + 1)) wr from ⟨rfl, k + 1, by rfl, hlt, by rw [hp]⟩)
        generalize key e m = km at *
        generalize key e x = kx at *
        clear hp hx hm hb
        go_wp2_with fail
        refine (M1.out _).mono ?_
        rintro y w ⟨rfl, rfl⟩
        go_wp2_with fail
        refine (M2.out _).mono ?_
        rintro y w ⟨rfl, rfl⟩
        go_wp2_with fail
        go_roundw
        case rel => first | exact HREL.out | exact ⟨_, _, HREL.out, rfl⟩ | ((repeat apply Exists.intro); exact ⟨HREL.out, rfl⟩)
        case measure => simp [intOf]; omega
    · have HP := Lib.hid (show bst e l = pk e l k by unfold bst; congr 1; omega)
      have hlz : decide ((k : Int) + 1 < (l.length : Int)) = false := decide_eq_false (by omega)
      obtain ⟨m, hm⟩ : ∃ m, m = pk e l k := ⟨_, rfl⟩
      rw [← hm] at HP ⊢
      clear hm
      go_wp2_with fail
      go_returns
      exact ⟨by rw [HP.out]; rfl, rfl⟩

/-- The compare that picks: by rank, the lesser number where ranks are alike. -/
def cfb (e : Nat) (x y : Int) : Int := orI (cmpN (key e x) (key e y)) (Lib.compareInt y x)
def saltV (e : Nat) : Value := .func (.func 23) #[.int .u32 e] #[]
theorem enter_rank (args : Array Value) (w : World) : (callFunc 23 args).run Try.prog w = .ok (.enter 23 args) w := enters_of Try.func23 (by kernel_rfl) rfl args w

set_option maxHeartbeats 1600000 in
theorem pickcmp_any (e : Nat) (x y : Int) (p : Nat) (W : World) (he : e < 4294967296) (hp : p < W.heap.size) (hc : W.cell? ⟨p, 0, none⟩ = some (saltV e)) :
    Calls Try.prog 32 #[.int .i64 x, .int .i64 y, .pointer (some ⟨p, 0, none⟩)] W fun a W' => a = .returned (.int .i64 (cfb e x y)) ∧ Gr W W' := by
  have er := enter_rank
  have HC := Lib.hid (show ∀ V, Gr W V → V.cell? ⟨p, 0, none⟩ = some (saltV e) from fun V h => (h.cell ⟨p, 0, none⟩ hp).trans hc)
  unfold saltV at *
  have HG := Lib.hid (Gr.refl W).drew
  have RX := Lib.hid (fun V => rank_any e x V he)
  have RY := Lib.hid (fun V => rank_any e y V he)
  have HCF := Lib.hid (show cfb e x y = orI (cmpN (key e x) (key e y)) (Lib.compareInt y x) from rfl)
  clear hc
  go_enter Try.func32, Try.ntmps32
  go_wp2_with fail
  obtain ⟨U, hU⟩ : ∃ U, U = W.drew := ⟨_, rfl⟩
  rw [← hU] at HG
  refine wp_region_ord [(0, true), (1, true), (3, true), (4, true), (7, true), (8, true), (2, false), (5, false), (6, false), (9, false), (10, false), (11, false), (12, true)] (Gr W) (by kernel_rfl) (by kernel_rfl) (by decide) (by kernel_rfl) (fun d _ _ _ _ h => by cases d <;> exact h) (by rw [← hU]; exact HG.out) ?_
  rw [← hU]
  clear hU
  iterate 6 ((apply wpOrd_take rfl rfl (by kernel_rfl); (intro V hV; have x0 := HC.out V hV; go_simp; rfl)); (try simp only [List.setIfInBounds_toArray, List.set_cons_succ, List.set_cons_zero]))
  apply wpOrd_do rfl (by kernel_rfl)
  intro K hK
  go_simp
  refine (RX.out _).mono ?_
  rintro a w ⟨rfl, rfl⟩
  refine hK _ _ HG.out ?_
  clear hK K
  apply wpOrd_do rfl (by kernel_rfl)
  intro K hK
  go_simp
  refine (RY.out _).mono ?_
  rintro a w ⟨rfl, rfl⟩
  refine hK _ _ HG.out ?_
  clear hK K
  apply wpOrd_do rfl (by kernel_rfl)
  intro K hK
  go_simp
  refine (cmp_any _ _ _).mono ?_
  rintro a w ⟨rfl, rfl⟩
  refine hK _ _ HG.out ?_
  clear hK K
  apply wpOrd_do rfl (by kernel_rfl)
  intro K hK
  go_simp
  refine (Try.cmp_Compare_int _ _ _).mono ?_
  rintro a w ⟨rfl, hw⟩
  rw [hw]
  clear hw
  refine hK _ _ HG.out ?_
  clear hK K
  generalize cmpN (key e x) (key e y) = c1 at *
  generalize Lib.compareInt y x = c2 at *
  apply wpOrd_do rfl (by kernel_rfl)
  intro K hK
  go_simp
  obtain ⟨X, hX⟩ : ∃ X, X = U.alloc (.cells #[.int .i64 c1, .int .i64 c2] 3) := ⟨_, rfl⟩
  have HGX := Lib.hid (show Gr W X by rw [hX]; exact HG.out.alloc _)
  have hrow : X.heap[U.heap.size]? = some (.cells #[.int .i64 c1, .int .i64 c2] 3 (0, 0)) := by rw [hX]; exact heap_alloc_new _ _
  have HO := Lib.hid (or_any U.heap.size _ _ _ X hrow)
  have HX := Lib.hid hX
  clear hX hrow
  rw [← HX.out]
  refine hK _ _ HGX.out ?_
  clear hK K
  apply wpOrd_do rfl (by kernel_rfl)
  intro K hK
  go_simp
  refine HO.out.mono ?_
  rintro a w ⟨rfl, rfl⟩
  refine hK _ _ HGX.out ?_
  clear hK K
  apply wpOrd_take rfl rfl (by kernel_rfl)
  · intro V _; go_simp; rfl
  (try simp only [List.setIfInBounds_toArray, List.set_cons_succ, List.set_cons_zero])
  refine wpOrd_nil ?_
  go_wp2_with fail
  go_returns
  exact ⟨by rw [HCF.out]; rfl, HGX.out⟩

theorem toArr_get (l : List Int) (i : Nat) : l.toArray[i]! = l.getD i 0 := by
  rw [List.getD_eq_getElem?_getD]
  by_cases h : i < l.length
  · rw [getElem!_pos l.toArray i (by simpa using h), List.getElem?_eq_getElem h]; simp
  · rw [getElem!_neg l.toArray i (by simpa using h), List.getElem?_eq_none (by omega)]; rfl
theorem Lst.holds {W : World} {g off cap : Nat} {l : List Int} (h : ∀ j, j < l.length → W.cell? ⟨g, off + j, none⟩ = some (.int .i64 (l.getD j 0)) ∧ W.frozen? ⟨g, off + j, none⟩ = false) : Holds (Value.int .i64) W g off l.toArray := by
  intro j hj
  have := h j (by simpa using hj)
  rwa [toArr_get]
/-- By that compare the best is the best. -/
theorem cfb_pos {e : Nat} {x m : Int} (h : m < x) : decide (0 < cfb e x m) = bet e x m := by
  unfold cfb bet orI cmpN Lib.compareInt
  rw [Bool.eq_iff_iff, decide_eq_true_eq, decide_eq_true_eq]
  split <;> split <;> (try split) <;> omega
def Rise : List Int → Prop := List.Pairwise (· < ·)
theorem nbs_rise : ∀ (l : List Int) (z : Int), nbs z l = true → Rise l ∧ ∀ x ∈ l, z < x ∧ x ≤ 24
  | [], z, _ => ⟨List.Pairwise.nil, by simp⟩
  | n :: t, z, h => by
    rw [nbs] at h
    split at h
    · cases h
    · rename_i hn
      obtain ⟨h1, h2⟩ := nbs_rise t n h
      refine ⟨List.Pairwise.cons (fun x hx => (h2 x hx).1) h1, fun x hx => ?_⟩
      rcases List.mem_cons.1 hx with rfl | hx
      · omega
      · have := h2 x hx; omega
theorem rise_at {l : List Int} (h : Rise l) {i j : Nat} (hij : i < j) (hj : j < l.length) : l.getD i 0 < l.getD j 0 := by
  have := List.pairwise_iff_getElem.1 h i j (by omega) hj hij
  rw [List.getD_eq_getElem?_getD, List.getD_eq_getElem?_getD, List.getElem?_eq_getElem (by omega), List.getElem?_eq_getElem hj]
  exact this
theorem pk_at (e : Nat) (l : List Int) : ∀ i, ∃ j, j ≤ i ∧ pk e l i = l.getD j 0
  | 0 => ⟨0, Nat.le_refl _, rfl⟩
  | i + 1 => by
    rw [pk]
    split
    · exact ⟨i + 1, Nat.le_refl _, rfl⟩
    · obtain ⟨j, hj, h⟩ := pk_at e l i
      exact ⟨j, by omega, h⟩
theorem pick_pk (e : Nat) {l : List Int} (h : Rise l) : ∀ i, i < l.length → Lib.pickBy (fun x m => decide (0 < cfb e x m)) l.toArray i = pk e l i
  | 0, _ => by rw [Lib.pickBy, toArr_get]; rfl
  | i + 1, hi => by
    obtain ⟨j, hj, hp⟩ := pk_at e l i
    rw [Lib.pickBy, pick_pk e h i (by omega), toArr_get, cfb_pos (by rw [hp]; exact rise_at h (by omega) hi), pk]
theorem SW.gr {W V : World} {g off : Nat} {d : Array Int} (h : SW (Value.int .i64) W g off d V) (hH : Holds (Value.int .i64) W g off d) : Gr W V := by
  obtain ⟨n, os, rfl⟩ := h
  unfold sortWorld
  exact ⟨n, os, by rw [putRow_ahead, putRow_self _ _ _ _ _ hH]; rfl⟩
theorem enter_pick (args : Array Value) (w : World) : (callFunc 32 args).run Try.prog w = .ok (.enter 32 args) w := enters_of Try.func32 (by kernel_rfl) rfl args w

set_option maxHeartbeats 1600000 in
theorem best_any (e : Nat) (l : List Int) (v : Value) (W : World) (he : e < 4294967296) (h : Lst W v l) (h0 : 0 < l.length) (hr : Rise l) : Calls Try.prog 22 #[v, saltV e] W fun x W' => x = .returned (.int .i64 (bst e l)) ∧ Gr W W' := by
  obtain ⟨g, off, cap, rfl, hs, _, _, hg, hcells⟩ := h.form h0
  obtain ⟨W1, hW1⟩ : ∃ W1, W1 = W.alloc (.cells #[saltV e] 42) := ⟨_, rfl⟩
  have hG1 : Gr W W1 := by rw [hW1]; exact (Gr.refl W).alloc _
  have hH1 : Holds (Value.int .i64) W1 g off l.toArray := Lst.holds (cap := cap) (fun j hj => ⟨(hG1.cell ⟨g, off + j, none⟩ hg).trans (hcells j hj).1, (below_frozen hG1.below ⟨g, off + j, none⟩ hg).trans (hcells j hj).2⟩)
  have hcmp : CmpLays1 Try.prog 32 #[.pointer (some ⟨W.heap.size, 0, none⟩)] (Value.int .i64) (cfb e) g off l.toArray.size W1 := by
    intro m os dk hdk x y
    have hsz : W.heap.size < (putRow (Value.int .i64) (Sort.ahead W1 m) g off dk).heap.size := by
      rw [size_putRow, hW1]; show W.heap.size < (W.alloc _).heap.size; rw [World.size_alloc]; omega
    refine (pickcmp_any e x y W.heap.size _ he ?_ ?_).mono fun a w' ⟨h1, h2⟩ => ⟨h1, h2⟩
    · unfold sortWorld; rw [size_grow]; omega
    · unfold sortWorld
      rw [cell?_grow _ _ _ hsz, cell?_putRow_other _ _ _ _ _ _ (.inl (by show W.heap.size ≠ g; omega)), hW1]
      show (W.alloc _).cell? _ = _
      simp
  have hcon := Ytmjaompepchieaa.max_any (Value.int .i64) (fun _ => rfl) (cfb e) 32 #[.pointer (some ⟨W.heap.size, 0, none⟩)] g off cap l.toArray W1 enter_pick hcmp hH1 (Nat.lt_of_lt_of_le hg hG1.size) (by simp; omega) (by simpa using h0)
  rw [show l.toArray.size = l.length from by simp, pick_pk e hr _ (by omega)] at hcon
  have HC := Lib.hid (hcon.mono fun x V ⟨h1, h2⟩ => (show x = Ending.returned (Value.int .i64 (bst e l)) ∧ Gr W V from ⟨h1, hG1.trans (SW.gr h2 hH1)⟩))
  have HW1 := Lib.hid hW1
  clear hcon hcmp hH1 hG1 hW1 hcells h
  unfold saltV at *
  go_enter Try.func22, Try.ntmps22
  go_wp2_with fail
  rw [← HW1.out]
  refine HC.out.mono ?_
  rintro x V ⟨rfl, hV⟩
  have HV := Lib.hid hV
  clear hV
  go_wp2_with fail
  go_returns
  exact ⟨rfl, HV.out⟩

end Go.Proofs.Ytmjaompepchieaa
