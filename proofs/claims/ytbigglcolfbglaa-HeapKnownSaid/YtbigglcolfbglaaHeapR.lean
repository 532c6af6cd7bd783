/- Contracts of the reference's Least and Without, over lists of things. -/
import Derived.Test.YtbigglcolfbglaaHeapP
import Derived.Test.YtbigglcolfbglaaRows
import Derived.Test.YtbigglcolfbglaaBase
import Derived.Test.YtbigglcolfbglaaRegion
set_option linter.unusedSimpArgs false
set_option linter.unusedVariables false
namespace Go.Proofs.Ytbigglcolfbglaa
open Go.RowKit

/-- A list of things, as cells. -/
def tS (l : List (Int × Int)) : List Value := l.flatMap fun x => [.int .i64 x.1, .int .i64 x.2]
theorem tS_length (l : List (Int × Int)) : (tS l).length = l.length * 2 := by
  induction l with
  | nil => rfl
  | cons x r ih => simp only [tS, List.flatMap_cons, List.length_append, List.length_cons, List.length_nil] at ih ⊢; rw [ih]; omega
theorem tS_append (l m : List (Int × Int)) : tS (l ++ m) = tS l ++ tS m := by simp [tS]
theorem tS_take (l : List (Int × Int)) : ∀ k, (tS l).take (k * 2) = tS (l.take k) := by
  induction l with
  | nil => intro k; simp [tS]
  | cons x r ih =>
    intro k
    cases k with
    | zero => simp [tS]
    | succ k =>
      have := ih k
      simp only [tS, List.flatMap_cons, List.take_succ_cons, Nat.add_mul, List.cons_append, List.nil_append] at this ⊢
      simp [this]
theorem tS_drop (l : List (Int × Int)) : ∀ k, (tS l).drop (k * 2) = tS (l.drop k) := by
  induction l with
  | nil => intro k; simp [tS]
  | cons x r ih =>
    intro k
    cases k with
    | zero => simp [tS]
    | succ k =>
      have := ih k
      simp only [tS, List.flatMap_cons, List.drop_succ_cons, Nat.add_mul, List.cons_append, List.nil_append] at this ⊢
      simp [this]
theorem tS_get {l : List (Int × Int)} {i : Nat} (h : i < l.length) : (tS l)[i * 2]? = some (.int .i64 (l.getD i default).1) ∧ (tS l)[i * 2 + 1]? = some (.int .i64 (l.getD i default).2) := by
  induction l generalizing i with
  | nil => simp at h
  | cons y r ih =>
    cases i with
    | zero => simp [tS]
    | succ i =>
      have := ih (i := i) (by simpa using h)
      simp only [tS, List.flatMap_cons, List.cons_append, List.nil_append, List.getD_cons_succ, Nat.add_mul] at this ⊢
      exact this

/-- A slice that reads as a list of things. -/
def TRow (W : World) (b : Nat) (v : Value) (l : List (Int × Int)) : Prop := Row W b 26 2 v l.length (tS l)
def tkey (x : Int × Int) : Int := x.1

set_option maxHeartbeats 800000 in
theorem least_any (W : World) (b : Nat) (v : Value) (l : List (Int × Int)) (hrow : TRow W b v l) (hl : l.length < 1000000) :
    Calls Try.prog 10 #[v] W fun e W' => e = .returned (.int .i64 (lsA tkey l l.length)) ∧ Below W.heap.size W W' := by
  obtain ⟨av, cap, rfl, hc1, hc2⟩ := hrow.shape
  have HR := Lib.hid hrow
  clear hrow
  go_enter Try.func10, Try.ntmps10
  go_wp2_with fail
  go_loopw [3, 4] (fun a i wr => ∃ k : Nat, k ≤ l.length ∧ i = .int .i64 k ∧ a = .int .i64 (lsA tkey l k) ∧ Below W.heap.size W wr) (fun _ i _ => l.length - (intOf i).toNat)
  case atStart => exact ⟨0, Nat.zero_le _, rfl, rfl, Below.refl _ _⟩
  case round =>
    obtain ⟨k, hk, rfl, rfl, hb⟩ := hrel
    by_cases hlt : k < l.length
    · obtain ⟨g, cap', hv, _, hgl, _, _, hcell, _⟩ := (HR.out.later hb).form (by omega)
      simp only [Value.slice.injEq, true_and] at hv
      obtain ⟨rfl, rfl⟩ := hv
      have gk := (hcell _ (by omega)).trans (tS_get hlt).1
      have HB := Lib.hid hb
      by_cases hk0 : k = 0
      · subst hk0
        have hls : lsA tkey l 0 = -1 := rfl
        rw [hls]
        have HL := Lib.hid (show lsA tkey l 1 = ((0 : Nat) : Int) by simp [lsA])
        clear hls hcell hb gk
        go_wp2_with fail
        refine wp_region_ord [(0, true), (1, true), (2, true), (3, true), (4, true), (5, true), (6, true), (7, true), (8, true), (9, true), (10, true), (11, true), (12, true), (13, true), (14, true)] (fun _ => True) (by kernel_rfl) (by kernel_rfl) (by decide) (by kernel_rfl) (fun d _ _ _ _ h => by cases d <;> exact h) trivial ?_
        iterate 3 ((apply wpOrd_take rfl rfl (by kernel_rfl); (intro V _; go_simp; rfl)); (try simp only [List.setIfInBounds_toArray, List.set_cons_succ, List.set_cons_zero]))
        iterate 11 ((apply wpOrd_skip rfl rfl (by kernel_rfl)); (try simp only [List.setIfInBounds_toArray, List.set_cons_succ, List.set_cons_zero]))
        apply wpOrd_take rfl rfl (by kernel_rfl)
        · intro V _; go_simp; rfl
        refine wpOrd_nil ?_
        go_wp2_with fail
        go_roundw
        case rel => exact ⟨1, by omega, rfl, by rw [HL.out]; rfl, HB.out.drew⟩
        case measure => simp [intOf]; omega
      · obtain ⟨a, hls, hak, h3, h4⟩ := lsA_some (key := tkey) l k (by omega)
        rw [hls]
        have ga := (hcell _ (by omega)).trans (tS_get (i := a) (by omega)).1
        have HL := Lib.hid hls
        have hal : a < l.length := by omega
        obtain ⟨x, hx⟩ : ∃ x, x = (l.getD k default).1 := ⟨_, rfl⟩
        obtain ⟨y, hy⟩ : ∃ y, y = (l.getD a default).1 := ⟨_, rfl⟩
        rw [← hx] at gk
        rw [← hy] at ga
        have HX := Lib.hid hx
        have HY := Lib.hid hy
        clear hls hcell hb h3 h4 hx hy
        go_wp2_with fail
        refine wp_region_ord [(0, true), (1, true), (2, true), (3, true), (4, true), (5, true), (6, true), (7, true), (8, true), (9, true), (10, true), (11, true), (12, true), (13, true), (14, true)] (fun V => V = wr.drew) (by kernel_rfl) (by kernel_rfl) (by decide) (by kernel_rfl) (fun d _ _ _ _ h => by cases d <;> exact h) rfl ?_
        iterate 15 ((apply wpOrd_take rfl rfl (by kernel_rfl); (intro V hV; subst hV; go_simp; rfl)); (try simp only [List.setIfInBounds_toArray, List.set_cons_succ, List.set_cons_zero]))
        refine wpOrd_nil ?_
        by_cases hq : x < y
        · have HS := Lib.hid (show lsA tkey l (k + 1) = (k : Int) by rw [lsA, HL.out, if_pos (.inr (by rw [Int.toNat_natCast]; show (l.getD k default).1 < (l.getD a default).1; rw [← HX.out, ← HY.out]; exact hq))])
          go_wp2_with fail
          go_roundw
          case rel => exact ⟨k + 1, by omega, by go_num, by rw [HS.out], HB.out.drew⟩
          case measure => simp [intOf]; omega
        · have HS := Lib.hid (show lsA tkey l (k + 1) = (a : Int) by rw [lsA, HL.out, if_neg (by rw [Int.toNat_natCast]; show ¬ ((a : Int) < 0 ∨ (l.getD k default).1 < (l.getD a default).1); rw [← HX.out, ← HY.out]; omega)])
          go_wp2_with fail
          go_roundw
          case rel => exact ⟨k + 1, by omega, by go_num, by rw [HS.out], HB.out.drew⟩
          case measure => simp [intOf]; omega
    · obtain rfl : k = l.length := by omega
      go_wp2_with fail
      go_ret
      exact ⟨rfl, hb⟩

def WithoutPost (W : World) (l : List (Int × Int)) (e : Ending) (W' : World) : Prop := ∃ v', e = .returned v' ∧ TRow W' W.heap.size v' l ∧ Below W.heap.size W W'
theorem infoTh : (Try.prog.info? 26).map (fun i => (i.zero, i.size, i.bytes)) = some (some (.agg #[.int .i64 0, .int .i64 0]), 2, 16) := by kernel_rfl
theorem tS_one {l : List (Int × Int)} : ∀ u ∈ tS l, u.oneCell' = true := by
  intro u hu
  simp only [tS, List.mem_flatMap, List.mem_cons, List.not_mem_nil, or_false] at hu
  obtain ⟨x, _, rfl | rfl⟩ := hu <;> rfl

theorem without_end {W w1 w2 : World} {l : List (Int × Int)} {k : Nat} {v1 v2 : Value} (he : l.eraseIdx k = l.take k ++ l.drop (k + 1)) (hlk : (l.take k).length = k) (hk : k < l.length) (hb : Below W.heap.size W w1)
    (hr : Row w1 W.heap.size 26 2 v1 k (tS (l.take k))) (hrow : Row w2 W.heap.size 26 2 v2 (k + (l.length - (k + 1))) (tS (l.take k) ++ tS (l.drop (k + 1)))) (hg : w1.grownBy w2 v1.ownBlock) :
    WithoutPost W (l.eraseIdx k) (.returned v2) w2 := by
  refine ⟨v2, rfl, ?_, hb.grown hg hb.size fun q hq => (hr.lt q hq).1⟩
  unfold TRow
  rw [he, tS_append, List.length_append, hlk, List.length_drop]
  exact hrow

set_option maxHeartbeats 800000 in
theorem without_any (W : World) (b : Nat) (v : Value) (l : List (Int × Int)) (k : Nat) (hrow : TRow W b v l) (hk : k < l.length) (hl : l.length < 1000000) :
    Calls Try.prog 13 #[v, .int .i64 k] W (WithoutPost W (l.eraseIdx k)) := by
  obtain ⟨i0, hi, hz0, hz1, hz2⟩ := info_parts infoTh
  obtain ⟨gb, cap, rfl, _, hgl, hc1, hc2, hcell, _⟩ := hrow.form (by omega)
  have e1 : tS (l.take k) = (tS l).take (k * 2) := (tS_take l k).symm
  have e2 : tS (l.drop (k + 1)) = (tS l).drop ((k + 1) * 2) := (tS_drop l (k + 1)).symm
  have e3 : l.eraseIdx k = l.take k ++ l.drop (k + 1) := List.eraseIdx_eq_take_drop_succ l k
  have n1 : ∀ j u, (tS (l.take k))[j]? = some u → W.cell? ((⟨gb, 0, none⟩ : Addr).add j) = some u := by
    intro j u hu
    have hadd : (⟨gb, 0, none⟩ : Addr).add j = ⟨gb, j, none⟩ := by unfold Addr.add; split <;> simp_all
    have hj : j < k * 2 := by
      have := (List.getElem?_eq_some_iff.1 hu).1
      rw [tS_length, List.length_take] at this
      omega
    rw [e1, List.getElem?_take, if_pos hj] at hu
    rw [hadd, hcell _ (by omega)]
    exact hu
  have H1 := Lib.hid n1
  have E3 := Lib.hid e3
  have E2 := Lib.hid e2
  have HC := Lib.hid hcell
  have hlk : (l.take k).length = k := by rw [List.length_take]; omega
  have HLK := Lib.hid hlk
  clear n1 e1 e2 e3 hcell hlk
  have n2 : ∀ (W2 : World) (row : Option Nat), W.grownBy W2 row → row ≠ some gb → ∀ j u, (tS (l.drop (k + 1)))[j]? = some u → (j + (k + 1) * 2 < l.length * 2) ∧ W2.cell? ⟨gb, (k + 1) * 2 + j, none⟩ = some u := by
    intro W2 row hg hr j u hu
    rw [E2.out, List.getElem?_drop] at hu
    have hj : (k + 1) * 2 + j < l.length * 2 := by
      have := (List.getElem?_eq_some_iff.1 hu).1
      rw [tS_length] at this
      exact this
    refine ⟨by omega, ?_⟩
    rw [World.cell?_of_block (hg.block gb hgl (fun e => hr e.symm)), HC.out _ hj]
    exact hu
  have H2 := Lib.hid n2
  clear n2
  by_cases hcap : cap = k + 1
  all_goals
    go_enter Try.func13, Try.ntmps13
    go_wp2_with (at_builtin; refine wpList_append_row _ rfl (.tmp 6) (.tmp 9) 28 rfl W.heap.size 26 i0 (.agg #[.int .i64 0, .int .i64 0]) 2 16 Try.underlying28 hi hz0 hz1 hz2 rfl (by decide) (.slice none 0 0) 0 [] rfl (Row.nil_ _ _ _ _) ⟨gb, 0, none⟩ k _ (tS (l.take k)) rfl ?_ H1.out tS_one ?_ ?_ (Nat.le_refl _) ?_)
    · rw [tS_length, HLK.out]
    · unfold maxLen; omega
    · omega
    intro v1 w1 hrow1 hg1 hn1 ho1
    have HN := Lib.hid hn1
    have HO := Lib.hid ho1
    have HR := Lib.hid hrow1
    have HG := Lib.hid hg1
    clear hn1 ho1 hrow1 hg1
    have hne : (Value.slice none 0 0).ownBlock ≠ some gb := by simp [Value.ownBlock]
    have hbw : Below W.heap.size W w1 := (Below.refl _ _).grown HG.out (Nat.le_refl _) (by intro q hq; simp [Value.ownBlock] at hq)
    have hlm : (tS (l.drop (k + 1))).length = (l.length - (k + 1)) * 2 := by rw [tS_length, List.length_drop]
    have HM := Lib.hid hlm
    clear hlm
  · have n3 : ∀ j u, (tS (l.drop (k + 1)))[j]? = some u → w1.cell? ((⟨gb, 0, none⟩ : Addr).add j) = some u := fun j u hu => by
      have := (H2.out w1 _ HG.out hne j u hu).1
      omega
    have H3 := Lib.hid n3
    clear n3
    go_wp2_with (at_builtin; refine wpList_append_row _ rfl (.tmp 11) (.tmp 15) 28 rfl W.heap.size 26 i0 (.agg #[.int .i64 0, .int .i64 0]) 2 16 Try.underlying28 hi hz0 hz1 hz2 rfl (by decide) v1 k (tS (l.take k)) rfl HR.out ⟨gb, 0, none⟩ (l.length - (k + 1)) _ (tS (l.drop (k + 1))) rfl HM.out H3.out tS_one ?_ ?_ hbw.size ?_)
    · unfold maxLen; omega
    · omega
    intro v2 w2 hrow2 hg2 _ _
    have HP := Lib.hid (without_end E3.out HLK.out (by omega) hbw HR.out hrow2 hg2)
    clear hrow2 hg2
    go_wp2_with fail
    go_ret
    exact HP.out
  · have n3 : ∀ j u, (tS (l.drop (k + 1)))[j]? = some u → w1.cell? ((⟨gb, (k + 1) * 2, none⟩ : Addr).add j) = some u := fun j u hu => by
      have hadd : (⟨gb, (k + 1) * 2, none⟩ : Addr).add j = ⟨gb, (k + 1) * 2 + j, none⟩ := by unfold Addr.add; split <;> simp_all
      rw [hadd]
      exact (H2.out w1 _ HG.out hne j u hu).2
    have H3 := Lib.hid n3
    clear n3
    go_wp2_with (at_builtin; refine wpList_append_row _ rfl (.tmp 11) (.tmp 15) 28 rfl W.heap.size 26 i0 (.agg #[.int .i64 0, .int .i64 0]) 2 16 Try.underlying28 hi hz0 hz1 hz2 rfl (by decide) v1 k (tS (l.take k)) rfl HR.out ⟨gb, (k + 1) * 2, none⟩ (l.length - (k + 1)) _ (tS (l.drop (k + 1))) rfl HM.out H3.out tS_one ?_ ?_ hbw.size ?_)
    · unfold maxLen; omega
    · omega
    intro v2 w2 hrow2 hg2 _ _
    have HP := Lib.hid (without_end E3.out HLK.out (by omega) hbw HR.out hrow2 hg2)
    clear hrow2 hg2
    go_wp2_with fail
    go_ret
    exact HP.out

end Go.Proofs.Ytbigglcolfbglaa
