/- The orders of the laws; contract of the law's works. -/
import Derived.Test.YtbigglcolfbglaaHeapO
import Derived.Test.YtbigglcolfbglaaHeapR
set_option linter.unusedSimpArgs false
set_option linter.unusedVariables false
namespace Go.Proofs.Ytbigglcolfbglaa
open Go.RowKit

theorem lah_key {β : Type} (key : β → Int) : lah (fun a b => decide (key a < key b)) = kah key := by
  funext a b
  simp only [lah, kah]
  rw [Bool.eq_iff_iff]
  simp only [Bool.or_eq_true, Bool.and_eq_true, Bool.not_eq_true', decide_eq_true_eq, decide_eq_false_iff_not]
  omega
theorem Touch.keeps {W V : World} {h k : Nat} {s t : Value} (T : Touch W V h s t) (hk : k < W.heap.size) (hh : k ≠ h) (hs : ∀ q, s.ownBlock = some q → k < q) : V.heap[k]? = W.heap[k]? ∧ ∀ q, t.ownBlock = some q → k < q := by
  refine ⟨T.block k hk hh (fun e => by have := hs k e; omega), fun q hq => ?_⟩
  rcases T.own with e | ⟨q', e, hq'⟩
  · exact hs q (e ▸ hq)
  · rw [e] at hq; simp only [Option.some.injEq] at hq; omega
theorem pops_step {β : Type} [Inhabited β] {ah : β × Nat → β × Nat → Bool} {m : Nat} {M : List (β × Nat)} {x : β} {r : List β} (h : pops ah (m + 1) M = x :: r) : (g M 0).1 = x ∧ pops ah m (popL ah M) = r := by
  simp only [pops, List.cons.injEq] at h
  exact h

/-! ### by keys -/
def tlt (a b : Int × Int) : Bool := decide (tkey a < tkey b)
theorem less_any (x y : Int × Int) (V : World) :
    Calls Try.prog 9 #[.agg #[.int .i64 x.1, .int .i64 x.2], .agg #[.int .i64 y.1, .int .i64 y.2]] V fun e V' => e = .returned (.bool (tlt x y)) ∧ Below V.heap.size V V' := by
  go_enter Try.func9, Try.ntmps9
  go_wp2_with fail
  go_ret
  exact ⟨rfl, ((Below.refl _ _).alloc (Nat.le_refl _) _).alloc (by rw [World.size_alloc]; omega) _⟩
theorem tOrder (B : Nat) : Order Try.prog tV B 9 #[] tlt (fun _ => True) (fun _ => True) where
  enter args w := by kernel_rfl
  stays _ _ _ _ := trivial
  calls x y V _ _ _ _ := less_any x y V


/-! ### by tens -/
def ikey (x : Int) : Int := x / 10
def ilt (a b : Int) : Bool := decide (ikey a < ikey b)
theorem tens_any (x y : Int) (V : World) (hx : 0 ≤ x ∧ x ≤ 1000) (hy : 0 ≤ y ∧ y ≤ 1000) :
    Calls Try.prog 27 #[.int .i64 x, .int .i64 y] V fun e V' => e = .returned (.bool (ilt x y)) ∧ Below V.heap.size V V' := by
  obtain ⟨hx1, hx2⟩ := hx
  obtain ⟨hy1, hy2⟩ := hy
  go_enter Try.func27, Try.ntmps27
  go_wp2_with fail
  go_ret
  exact ⟨rfl, Below.refl _ _⟩
theorem iOrder (B : Nat) : Order Try.prog iV B 27 #[] ilt (fun x => 0 ≤ x ∧ x ≤ 1000) (fun _ => True) where
  enter args w := by kernel_rfl
  stays _ _ _ _ := trivial
  calls x y V hx hy _ _ := tens_any x y V hx hy

/-- The pushing of works. -/
def wkIn : List Int := [42, 41, 30, 45]
def wkOut : List Int := [30, 42, 41, 45]
theorem wk_sel : sel ikey 4 wkIn = wkOut := by decide
def wkRel (W : World) (h g1 : Nat) (i : Value) (wr : World) : Prop :=
  ∃ (k : Nat) (s : Value), i = .int .i64 k ∧ k ≤ 4 ∧ iAt wr W.heap.size h 27 #[] (pushs (lah ilt) [] 0 (wkIn.take k)) k s ∧ Below W.heap.size W wr ∧ wr.heap[g1]? = some (.cells #[.int .i64 42, .int .i64 41, .int .i64 30, .int .i64 45] 3 (0, 0)) ∧ ∀ q, s.ownBlock = some q → g1 < q
def wkRel2 (W : World) (h g1 : Nat) (i : Value) (wr : World) : Prop :=
  ∃ (k : Nat) (M : List (Int × Nat)) (s : Value), i = .int .i64 k ∧ k ≤ 4 ∧ M.length = 4 - k ∧ pops (lah ilt) (4 - k) M = wkOut.drop k ∧ (∀ x ∈ M, 0 ≤ x.1 ∧ x.1 ≤ 1000) ∧ iAt wr W.heap.size h 27 #[] M 4 s ∧ Below W.heap.size W wr ∧ wr.heap[g1]? = some (.cells #[.int .i64 30, .int .i64 42, .int .i64 41, .int .i64 45] 3 (0, 0)) ∧ s.ownBlock ≠ some g1 ∧ g1 ≠ h

set_option maxRecDepth 100000 in
set_option maxHeartbeats 1600000 in
theorem works_any (W : World) : Calls Try.prog 16 #[] W fun e W' => e = .returned (.bool true) ∧ Below W.heap.size W W' := by
  go_enter Try.func16, Try.ntmps16
  go_wp2_with fail
  refine (inew_any _ _ W).mono ?_
  rintro e w1 ⟨rfl, rfl⟩
  go_wp2_with fail
  have hR0 : wkRel W W.heap.size (W.heap.size + 1) (.int .i64 0) ((W.alloc (.cells #[.func (.func 27) #[] #[], .slice none 0 0, .int .u64 0] 59)).alloc (.cells #[.int .i64 42, .int .i64 41, .int .i64 30, .int .i64 45] 3)) := by
    have hA := inew_at 27 #[] W (Nat.le_refl W.heap.size)
    have e : (W.alloc (.cells #[.func (.func 27) #[] #[], .slice none 0 0, .int .u64 0] 59)).heap.size = W.heap.size + 1 := World.size_alloc _ _
    refine ⟨0, .slice none 0 0, rfl, by omega, HeapAt.later hA ((Below.refl _ _).alloc (Nat.le_refl _) _), ((Below.refl _ _).alloc (Nat.le_refl _) _).alloc (by rw [e]; omega) _, ?_, by intro q hq; simp [Value.ownBlock] at hq⟩
    have := heap_alloc_new (W.alloc (.cells #[.func (.func 27) #[] #[], .slice none 0 0, .int .u64 0] 59)) (.cells #[.int .i64 42, .int .i64 41, .int .i64 30, .int .i64 45] 3)
    rw [e] at this
    exact this
  have HR0 := Lib.hid hR0
  clear hR0
  go_loopw [13] (fun i wr => wkRel W W.heap.size (W.heap.size + 1) i wr) (fun i _ => 4 - (intOf i).toNat)
  case atStart => exact HR0.out
  case round =>
    obtain ⟨k, s, rfl, hk, hat, hb, hl, hs⟩ := hrel
    by_cases hk4 : k < 4
    · obtain ⟨v, hv⟩ : ∃ v, v = wkIn.getD k 0 := ⟨_, rfl⟩
      have hc : wr.cell? ⟨W.heap.size + 1, k, none⟩ = some (.int .i64 v) := by
        rw [cell_of_row _ _ k _ _ _ hl, hv]
        match k, hk4 with
        | 0, _ => rfl
        | 1, _ => rfl
        | 2, _ => rfl
        | 3, _ => rfl
      have hsn : wkIn.take (k + 1) = wkIn.take k ++ [v] := by
        rw [hv]
        match k, hk4 with
        | 0, _ => rfl
        | 1, _ => rfl
        | 2, _ => rfl
        | 3, _ => rfl
      have hokI : ∀ x ∈ wkIn, 0 ≤ x ∧ x ≤ 1000 := by decide
      have hvI : v ∈ wkIn := by
        have : v ∈ wkIn.take (k + 1) := by rw [hsn]; simp
        exact List.mem_of_mem_take this
      have hlen : (pushs (lah ilt) [] 0 (wkIn.take k)).length = k := by rw [pushs_length, List.length_take]; simp [wkIn]; omega
      have hp := ipush_any (iOrder W.heap.size) (pushs (lah ilt) [] 0 (wkIn.take k)) s v wr hb.size hat trivial (fun x hx => hokI _ (List.mem_of_mem_take (pushs_mem _ hx))) (hokI v hvI) (by omega) (by omega)
      have HP := Lib.hid (show ∀ W', iPushed ilt wr W.heap.size W.heap.size 27 #[] (pushs (lah ilt) [] 0 (wkIn.take k)) v k s W' → wkRel W W.heap.size (W.heap.size + 1) (.int .i64 ((k : Int) + 1)) W' by
        rintro W' ⟨s', hat', T⟩
        obtain ⟨t1, t2⟩ := T.keeps (k := W.heap.size + 1) (Array.getElem?_eq_some_iff.1 hl).1 (by omega) hs
        refine ⟨k + 1, s', by go_num, by omega, ?_, hb.trans (T.below hb.size (Nat.le_refl _) fun q hq => by have := hs q hq; omega), t1.trans hl, t2⟩
        rw [hsn, pushs_snoc, Nat.zero_add, show (wkIn.take k).length = k from by simp [wkIn]; omega]
        exact hat')
      have HC := Lib.hid hp
      clear hp hsn hokI hvI hlen hat hb hl hs hv
      go_wp2_with fail
      refine HC.out.mono ?_
      rintro e W' ⟨rfl, hp⟩
      have HN := Lib.hid (HP.out W' hp)
      clear hp
      go_wp2_with fail
      go_roundw
      case rel => exact HN.out
      case measure => simp [intOf]; omega
    · obtain rfl : k = 4 := by omega
      have hlen : (pushs (lah ilt) [] 0 (wkIn.take 4)).length = 4 := by rw [pushs_length]; rfl
      have hR0 : wkRel2 W W.heap.size wr.heap.size (.int .i64 0) (wr.alloc (.cells #[.int .i64 30, .int .i64 42, .int .i64 41, .int .i64 45] 3)) := by
        refine ⟨0, pushs (lah ilt) [] 0 (wkIn.take 4), s, rfl, by omega, hlen, ?_, ?_, HeapAt.later hat ((Below.refl _ _).alloc (Nat.le_refl _) _), hb.alloc hb.size _, heap_alloc_new _ _, ?_, ?_⟩
        · obtain ⟨I', h1, h2⟩ := pushs_st (key := ikey) (wkIn.take 4) [] [] 0 St.nil
          have h3 := pops_sel 4 _ I' _ h1 (by have e := hlen; rw [show lah ilt = kah ikey from lah_key ikey] at e; exact e)
          rw [show lah ilt = kah ikey from lah_key ikey]
          refine h3.trans ?_
          rw [h2]
          exact wk_sel
        · intro x hx
          have hokI : ∀ x ∈ wkIn, 0 ≤ x ∧ x ≤ 1000 := by decide
          exact hokI _ (List.mem_of_mem_take (pushs_mem _ hx))
        · intro e; have := (HeapAt.row hat).lt _ e; omega
        · have := HeapAt.lt hat; omega
      have HR1 := Lib.hid hR0
      clear hR0 hlen hat hb hl hs
      go_wp2_with fail
      obtain ⟨wo, rfl⟩ : ∃ wo : World, wo = wr := ⟨_, rfl⟩
      go_loopw [24] (fun i wr => wkRel2 W W.heap.size wo.heap.size i wr) (fun i _ => 4 - (intOf i).toNat)
      case atStart => exact HR1.out
      case round =>
        obtain ⟨k, M, s, rfl, hk, hM, hpp, hokM, hat, hb, hl, hs, hgh⟩ := hrel
        by_cases hk4 : k < 4
        · obtain ⟨v, hv⟩ : ∃ v, v = wkOut.getD k 0 := ⟨_, rfl⟩
          have hc : wr.cell? ⟨wo.heap.size, k, none⟩ = some (.int .i64 v) := by
            rw [cell_of_row _ _ k _ _ _ hl, hv]
            match k, hk4 with
            | 0, _ => rfl
            | 1, _ => rfl
            | 2, _ => rfl
            | 3, _ => rfl
          have hdr : wkOut.drop k = v :: wkOut.drop (k + 1) := by
            rw [hv]
            match k, hk4 with
            | 0, _ => rfl
            | 1, _ => rfl
            | 2, _ => rfl
            | 3, _ => rfl
          rw [hdr, show 4 - k = (4 - (k + 1)) + 1 from by omega] at hpp
          obtain ⟨hgv, hpn⟩ := pops_step hpp
          have hp := ipop_yes (iOrder W.heap.size) M s wr hb.size hat trivial hokM (by omega) (by omega)
          rw [hgv] at hp
          have HP := Lib.hid (show ∀ W', iPopped ilt wr W.heap.size W.heap.size 27 #[] M 4 s W' → wkRel2 W W.heap.size wo.heap.size (.int .i64 ((k : Int) + 1)) W' by
            rintro W' ⟨s', hat', T⟩
            have hpl := popL_length (lah ilt) (L := M) (by omega)
            have hblk := T.block wo.heap.size (Array.getElem?_eq_some_iff.1 hl).1 hgh hs
            refine ⟨k + 1, _, s', by go_num, by omega, by omega, hpn, fun x hx => hokM x (popL_mem _ (by omega) hx), hat', hb.trans (T.below hb.size (Nat.le_refl _) fun q hq => ((HeapAt.row hat).lt q hq).1), hblk.trans hl, ?_, hgh⟩
            intro e
            rcases T.own with e' | ⟨q, e', hq⟩
            · exact hs (e' ▸ e)
            · rw [e'] at e; simp only [Option.some.injEq] at e; have := (Array.getElem?_eq_some_iff.1 hl).1; omega)
          have HC := Lib.hid hp
          have hvv : (v != v) = false := by simp
          clear hp hpp hpn hgv hdr hat hb hl hs hv hokM
          go_wp2_with fail
          refine HC.out.mono ?_
          rintro e W' ⟨rfl, hp⟩
          have HN := Lib.hid (HP.out W' hp)
          clear hp
          go_wp2_with fail
          go_roundw
          case rel => first | exact HN.out | ((repeat apply Exists.intro); exact ⟨HN.out, rfl⟩)
          case measure => simp [intOf]; omega
        · obtain rfl : k = 4 := by omega
          have hM0 : M = [] := List.eq_nil_of_length_eq_zero (by omega)
          subst hM0
          have HB := Lib.hid hb
          have hlen := ilen_any wr hat
          have HL := Lib.hid hlen
          clear hb hl hs hat hlen hpp hM hokM
          go_wp2_with fail
          refine HL.out.mono ?_
          rintro e w' ⟨rfl, rfl⟩
          go_wp2_with fail
          go_ret
          exact ⟨rfl, HB.out⟩



end Go.Proofs.Ytbigglcolfbglaa
