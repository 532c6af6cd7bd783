/- Contract of the program's Rank, given the stable sort's. -/
import Derived.Test.YtmjaompepchieaaPkE
set_option linter.unusedSimpArgs false
set_option linter.unusedVariables false
namespace Go.Proofs.Ytmjaompepchieaa
open Go.RowKit Go.ChangeShapes Go.WideShapes Go.Sort

/-- The stable sort of fewer than so many: a sorted permutation. -/
def Stab (N : Nat) : Prop := ∀ (e p g off cap : Nat) (d : Array Int) (W : World), e < 4294967296 → CmpLays1 Try.prog 28 #[.pointer (some ⟨p, 0, none⟩)] (Value.int .i64) (cfr e) g off d.size W →
    Holds (Value.int .i64) W g off d → g < W.heap.size → d.size < N →
    Calls Try.prog 35 #[.slice (some ⟨g, off, none⟩) d.size cap, .int .i64 d.size, .func (.func 28) #[] #[.pointer (some ⟨p, 0, none⟩)]] W fun x W' =>
      x = .returned (.tuple #[]) ∧ ∃ d', PermIn 0 d.size d d' ∧ SortedIn (ltOf (cfr e)) 0 d.size d' ∧ SW (Value.int .i64) W g off d' W'
theorem stab20 : Stab 20 := fun e p g off cap d W he hcmp hH hg hn => stable_small e p g off cap d W he hcmp hH hg hn

/-- A list in memory of the call's own. -/
def Own (B : Nat) (W : World) (v : Value) (l : List Int) : Prop := Lst W v l ∧ ∀ k, v.ownBlock = some k → B ≤ k
theorem Own.later {B : Nat} {W V : World} {v : Value} {l : List Int} (h : Own B W v l) (hb : Below W.heap.size W V) : Own B V v l := ⟨h.1.later hb, h.2⟩
theorem Own.more {B C : Nat} {W : World} {v : Value} {l : List Int} (h : Own B W v l) (hb : C ≤ B) : Own C W v l := ⟨h.1, fun k hk => Nat.le_trans hb (h.2 k hk)⟩
theorem Row.own {W : World} {B : Nat} {e : TypeId} {v : Value} {l : List Int} (h : Row W B e 1 v l.length (l.map (Value.int .i64))) (hs : l.length ≤ 1000) : Own B W v l := by
  refine ⟨?_, fun k hk => (h.lt k hk).1⟩
  by_cases h0 : l.length = 0
  · obtain rfl : l = [] := List.eq_nil_of_length_eq_zero h0
    rcases h.2 with ⟨rfl, _⟩ | ⟨g, cap, cur, lo, hi, rfl, hb, hg, _, h1, h2, _⟩
    · exact .inl ⟨rfl, rfl⟩
    · exact .inr ⟨g, 0, cap, rfl, by simp, by simp, h2, (Array.getElem?_eq_some_iff.1 hg).1, fun j hj => by simp at hj⟩
  · obtain ⟨g, cap, rfl, hb, hg, h1, h2, h3, h4⟩ := Row.form h (by omega)
    refine .inr ⟨g, 0, cap, rfl, hs, h1, h2, hg, fun j hj => ⟨?_, ?_⟩⟩
    · rw [Nat.zero_add, h3 j (by omega), List.getElem?_map, List.getD_eq_getElem?_getD, List.getElem?_eq_getElem hj]; rfl
    · rw [Nat.zero_add]; exact h4 j (by omega)
theorem SW.below {W V : World} {g off B : Nat} {d : Array Int} (h : SW (Value.int .i64) W g off d V) (hB : B ≤ g) (hg : g < W.heap.size) : Below B W V := by
  obtain ⟨n, os, rfl⟩ := h
  unfold sortWorld
  refine ⟨rfl, rfl, rfl, ?_, fun k hk => ?_⟩
  · rw [Go.Sort.size_grow, Go.Sort.size_putRow]; exact Nat.le_add_right _ _
  · rw [heap_grow_old _ _ (by rw [Go.Sort.size_putRow]; show k < W.heap.size; omega)]
    simp only [putRow, mapBlock, Array.getElem?_modify]
    rw [if_neg (by omega)]
    rfl

theorem ins_zero (a : Option Addr) (cap : Nat) (f : Value) (W : World) : Calls Try.prog 38 #[.slice a 0 cap, .int .i64 0, .int .i64 0, f] W fun x W' => x = .returned (.tuple #[]) ∧ W = W' := by
  go_enter Try.func38, Try.ntmps38
  go_wp2_with fail
  go_loopw [8] (fun i wr => i = .int .i64 1 ∧ wr = W) (fun _ _ => 0)
  case atStart => exact ⟨rfl, rfl⟩
  case round =>
    obtain ⟨rfl, rfl⟩ := hrel
    go_wp2_with fail
    go_returns
    exact ⟨rfl, rfl⟩
theorem stable_zero (a : Option Addr) (cap : Nat) (f : Value) (W : World) : Calls Try.prog 35 #[.slice a 0 cap, .int .i64 0, f] W fun x W' => x = .returned (.tuple #[]) ∧ W = W' := by
  have HI := Lib.hid (fun V => ins_zero a cap f V)
  go_enter Try.func35, Try.ntmps35
  go_wp2_with fail
  go_loopw [7, 8] (fun a b wr => StOne W a b wr) (fun _ _ _ => 0)
  case atStart => exact ⟨rfl, rfl, rfl⟩
  case round =>
    obtain ⟨rfl, rfl, rfl⟩ := hrel
    go_wp2_with fail
    refine (HI.out _).mono ?_
    rintro x V ⟨rfl, rfl⟩
    go_wp2_with fail
    go_loopw [6] (fun c w => StTwo wr c w) (fun _ _ => 0)
    case atStart => exact ⟨rfl, rfl⟩
    case round =>
      obtain ⟨rfl, rfl⟩ := hrel
      go_wp2_with fail
      go_returns
      exact ⟨rfl, rfl⟩

/-- The neighbours by falling rank, and the error. -/
def rkz (e : Nat) (l : List Int) : List Int × Int := if nbs 0 l = true then (rk e l, 0) else ([], 2)

theorem sorted_any {N : Nat} (hN : Stab N) (e p : Nat) (l : List Int) (v : Value) (W : World) (he : e < 4294967296) (hl : l.length < N) (h : Own (p + 1) W v l) (hp : p < W.heap.size) (hc : W.cell? ⟨p, 0, none⟩ = some (saltV e)) (hr : ∀ x ∈ l, 0 < x ∧ x ≤ 24) :
    Calls Try.prog 27 #[v, .func (.func 28) #[] #[.pointer (some ⟨p, 0, none⟩)]] W fun x W' => x = .returned (.tuple #[]) ∧ Lst W' v (rk e l) ∧ Below (p + 1) W W' := by
  obtain ⟨h1, h2⟩ := h
  obtain ⟨C, hC⟩ : ∃ C : (Ending → World → Prop), C = fun x W' => x = Ending.returned (.tuple #[]) ∧ Lst W' v (rk e l) ∧ Below (p + 1) W W' := ⟨_, rfl⟩
  have hcall : Calls Try.prog 35 #[v, .int .i64 l.length, .func (.func 28) #[] #[.pointer (some ⟨p, 0, none⟩)]] W C := by
    by_cases h0 : l.length = 0
    · obtain rfl : l = [] := List.eq_nil_of_length_eq_zero h0
      obtain ⟨a, cap, rfl, _⟩ := h1.shape
      refine (stable_zero a cap _ W).mono ?_
      rintro x V ⟨rfl, rfl⟩
      rw [hC]
      refine ⟨rfl, ?_, Below.refl _ _⟩
      have : rk e [] = [] := List.eq_nil_of_length_eq_zero (rk_len e [])
      rw [this]; exact h1
    · obtain ⟨g, off, cap, rfl, hs, hc1, hc2, hg, hcells⟩ := h1.form (by omega)
      have hpg : p + 1 ≤ g := h2 g rfl
      have hH := Lst.holds (cap := cap) hcells
      have hst := hN e p g off cap l.toArray W he (rank_lays e p g off _ W he hp (by omega) hc) hH hg (by simpa using hl)
      simp only [List.size_toArray] at hst
      refine hst.mono ?_
      rintro x V ⟨rfl, d', hP, hS, hW⟩
      have hd : d'.toList = rk e l := rk_of he hr (by simpa using hP) (by simpa using hS)
      have hsz : d'.size = l.length := by have := hP.1; simpa using this
      have hH' := hW.holds hg hH (by simpa using hsz)
      rw [hC]
      refine ⟨rfl, .inr ⟨g, off, cap, by rw [rk_len], by rw [rk_len]; exact hs, by rw [rk_len]; exact hc1, hc2, hW.lt hg, fun j hj => ?_⟩, SW.below hW hpg hg⟩
      rw [rk_len] at hj
      have := hH' j (by omega)
      rwa [← hd, ← toArr_get, Array.toArray_toList]
  have HC := Lib.hid hcall
  have HCC := Lib.hid hC
  obtain ⟨a, cap, rfl, _⟩ := h1.shape
  clear hcall hC h1 h2
  go_enter Try.func27, Try.ntmps27
  go_wp2_with fail
  refine HC.out.mono ?_
  rintro x V hV
  rw [HCC.out] at hV
  obtain ⟨rfl, h3, h4⟩ := hV
  have HE := Lib.hid (And.intro h3 h4)
  clear h3 h4
  go_wp2_with fail
  go_returns
  exact ⟨rfl, HE.out⟩

theorem clone_any (l : List Int) (v : Value) (W : World) (h : Lst W v l) : Calls Try.prog 26 #[v] W fun x W' => ∃ v', x = .returned v' ∧ Own W.heap.size W' v' l ∧ Below W.heap.size W W' := by
  rcases h with ⟨rfl, rfl⟩ | ⟨g, off, cap, rfl, hs, h1, h2, hg, hcells⟩
  · refine (Try.slices_Clone_int_nil 0 0 W).mono ?_
    rintro x V ⟨rfl, hV⟩
    rw [hV]
    exact ⟨_, rfl, ⟨.inl ⟨rfl, rfl⟩, fun k hk => by simp [Value.ownBlock] at hk⟩, Below.refl _ _⟩
  · refine (Try.slices_Clone_int g off l.length cap l W (Nat.le_refl _) (by omega) (fun j hj => (hcells j hj).1)).mono ?_
    rintro x V ⟨v', rfl, hrow, _, hb⟩
    rw [List.take_length] at hrow
    exact ⟨v', rfl, Row.own (Row.of_own hrow) hs, hb⟩

set_option maxHeartbeats 800000 in
theorem prank_any {N : Nat} (hN : Stab N) (e : Nat) (l : List Int) (v : Value) (W : World) (he : e < 4294967296) (h : Lst W v l) (hl : nbs 0 l = true → l.length < N) :
    Calls Try.prog 11 #[.int .u32 e, v] W fun x W' => ∃ v', x = .returned (.tuple #[v', .int .i64 (rkz e l).2]) ∧ Own W.heap.size W' v' (rkz e l).1 ∧ Below W.heap.size W W' := by
  have HN := Lib.hid (nbs_any l v W h)
  have HL := Lib.hid h
  obtain ⟨a, cap, rfl, hs, _, _⟩ := h.shape
  clear h
  cases hn : nbs 0 l with
  | false =>
    have HE := Lib.hid (show rkz e l = ([], 2) by unfold rkz; rw [hn]; rfl)
    go_enter Try.func11, Try.ntmps11
    go_wp2_with fail
    rw [hn] at HN
    refine HN.out.mono ?_
    rintro x w ⟨rfl, rfl⟩
    clear hn
    go_wp2_with fail
    go_returns
    exact ⟨_, by rw [HE.out]; rfl, ⟨by rw [HE.out]; exact .inl ⟨rfl, rfl⟩, fun k hk => by simp [Value.ownBlock] at hk⟩, Below.refl _ _⟩
  | true =>
    have HE := Lib.hid (show rkz e l = (rk e l, 0) by unfold rkz; rw [hn, if_pos rfl])
    obtain ⟨W1, hW1⟩ : ∃ W1, W1 = W.alloc (.cells #[saltV e] 42) := ⟨_, rfl⟩
    have hb1 : Below W.heap.size W W1 := by rw [hW1]; exact (Below.refl _ _).alloc (Nat.le_refl _) _
    have hsz1 : W1.heap.size = W.heap.size + 1 := by rw [hW1, World.size_alloc]
    have hc1 : W1.cell? ⟨W.heap.size, 0, none⟩ = some (saltV e) := by rw [hW1]; simp
    have HCL := Lib.hid ((clone_any l _ W1 (HL.out.later hb1)).mono fun x V ⟨v', h1, h2, h3⟩ => (show ∃ v', x = Ending.returned v' ∧ Own (W.heap.size + 1) V v' l ∧ Below W.heap.size W V ∧ W.heap.size < V.heap.size ∧ V.cell? ⟨W.heap.size, 0, none⟩ = some (saltV e) from
      ⟨v', h1, h2.more (by omega), hb1.trans (h3.mono (by omega)), by have := h3.size; omega, (below_cell h3 ⟨W.heap.size, 0, none⟩ (by show W.heap.size < _; omega)).trans hc1⟩))
    have HSO := Lib.hid (fun v' V (h2 : Own (W.heap.size + 1) V v' l) hp hc => sorted_any hN e W.heap.size l v' V he (hl hn) h2 hp hc (nbs_rise l 0 hn).2)
    have hst : Sem.run Try.prog (store ⟨W.heap.size, 0, none⟩ (saltV e)) (W.alloc (.cells #[.nilFunc] 42)) = .ok () W1 := by
      rw [run_store _ _ _ _ _ rfl, hW1]
      go_simp
    clear hW1 hb1 hsz1 hc1 hl
    unfold saltV at *
    go_enter Try.func11, Try.ntmps11
    go_wp2_with fail
    rw [hn] at HN
    refine HN.out.mono ?_
    rintro x w ⟨rfl, rfl⟩
    clear hn
    go_wp2_with fail
    refine HCL.out.mono ?_
    rintro x V ⟨v', rfl, h2, h3, h4, h5⟩
    have HB := Lib.hid h3
    have HS := Lib.hid (HSO.out v' V h2 h4 h5)
    have HO := Lib.hid h2
    clear h2 h3 h4 h5
    obtain ⟨a', cap', hv', _⟩ := HO.out.1.shape
    subst hv'
    go_wp2_with fail
    refine HS.out.mono ?_
    rintro x V' ⟨rfl, h2, h3⟩
    have HL' := Lib.hid h2
    have HB' := Lib.hid (HB.out.trans (h3.mono (Nat.le_succ _)))
    clear h2 h3
    go_wp2_with fail
    go_returns
    exact ⟨_, by rw [HE.out]; rfl, ⟨by rw [HE.out]; exact HL'.out, fun k hk => Nat.le_of_succ_le (HO.out.2 k hk)⟩, HB'.out⟩

end Go.Proofs.Ytmjaompepchieaa
