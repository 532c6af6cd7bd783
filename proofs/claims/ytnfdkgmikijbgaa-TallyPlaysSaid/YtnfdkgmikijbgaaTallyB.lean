/- Contracts of the tally: its methods. -/
import Derived.Test.YtnfdkgmikijbgaaTallyA
import Derived.Handy
set_option linter.unusedSimpArgs false
set_option linter.unusedVariables false
namespace Go.Proofs.Ytnfdkgmikijbgaa
open Go.RowKit Go.ChangeShapes Go.WideShapes

/-! ### the tally's cells -/
def tlC (L : List Cn) : List Value := .bool true :: L.flatMap Cn.cs
theorem Cn.cs_length (c : Cn) : c.cs.length = 6 := rfl
theorem fl_get {j : Nat} (hj : j < 6) : ∀ (L : List Cn) (r : Nat), r < L.length → (L.flatMap Cn.cs)[r * 6 + j]? = (L.getD r default).cs[j]?
  | [], _, h => by simp at h
  | c :: l, 0, _ => by
    rw [List.flatMap_cons, List.getElem?_append_left (by rw [Cn.cs_length]; omega), Nat.zero_mul, Nat.zero_add]; rfl
  | c :: l, r + 1, h => by
    rw [List.flatMap_cons, List.getElem?_append_right (by rw [Cn.cs_length]; omega), Cn.cs_length, show (r + 1) * 6 + j - 6 = r * 6 + j from by omega, fl_get hj l r (by simpa using h)]
    simp
def set6 (l : List Value) (o : Nat) (c : Cn) : List Value :=
  (((((l.set o (.int .u64 c.got)).set (o + 1) (.int .u64 c.loc)).set (o + 2) (.int .u64 c.cop)).set (o + 3) (.int .u64 c.los)).set (o + 4) (.int .u64 c.exp)).set (o + 5) (.int .u64 c.bad)
theorem fl_set (x : Cn) : ∀ (L : List Cn) (r : Nat), set6 (L.flatMap Cn.cs) (r * 6) x = (L.set r x).flatMap Cn.cs
  | [], _ => by simp [set6]
  | c :: l, 0 => by simp [set6, Cn.cs]
  | c :: l, r + 1 => by
    have ih := fl_set x l r
    have e : ∀ (m : List Value) (i : Nat) (v : Value), (c.cs ++ m).set (i + 6) v = c.cs ++ m.set i v := fun m i v => by
      rw [List.set_append_right (h := by rw [Cn.cs_length]; omega), Cn.cs_length, Nat.add_sub_cancel]
    rw [List.set_cons_succ, List.flatMap_cons, List.flatMap_cons, ← ih]
    unfold set6
    rw [show (r + 1) * 6 = r * 6 + 6 from by omega, show r * 6 + 6 + 1 = (r * 6 + 1) + 6 from by omega, show r * 6 + 6 + 2 = (r * 6 + 2) + 6 from by omega, show r * 6 + 6 + 3 = (r * 6 + 3) + 6 from by omega, show r * 6 + 6 + 4 = (r * 6 + 4) + 6 from by omega, show r * 6 + 6 + 5 = (r * 6 + 5) + 6 from by omega, e, e, e, e, e, e]
theorem put6_list (l : List Value) (o : Nat) (c : Cn) : put6 l.toArray o c = (set6 l o c).toArray := by
  simp only [put6, set6, List.setIfInBounds_toArray]
theorem tlC_put (L : List Cn) (r : Nat) (c : Cn) : put6 (tlC L).toArray (r * 6 + 1) c = (tlC (L.set r c)).toArray := by
  rw [put6_list, tlC, tlC, ← fl_set]
  simp only [set6, List.set_cons_succ, Nat.add_right_comm _ 1]
theorem tlC_six {L : List Cn} {r : Nat} (h : r < L.length) : Six (tlC L).toArray (r * 6 + 1) (L.getD r default) := by
  have key : ∀ j, j < 6 → (tlC L).toArray[r * 6 + 1 + j]? = (L.getD r default).cs[j]? := fun j hj => by
    rw [List.getElem?_toArray, tlC, show r * 6 + 1 + j = (r * 6 + j) + 1 from by omega, List.getElem?_cons_succ, fl_get hj L r h]
  exact ⟨key 0 (by omega), key 1 (by omega), key 2 (by omega), key 3 (by omega), key 4 (by omega), key 5 (by omega)⟩

structure TAt (W : World) (B t : Nat) (L : List Cn) : Prop where
  row : W.heap[t]? = some (.cells (tlC L).toArray 61 (0, 0))
  base : B ≤ t
  len : L.length = 25
  ok : ∀ c ∈ L, c.ok

def tl0 : List Cn := List.replicate 25 Cn.zero
def tlZ : Array Value := (.bool false :: (List.replicate 25 Cn.zero).flatMap Cn.cs).toArray
theorem tlZ_zero (W : World) : Sem.run Try.prog (zeroValue 61) W = .ok (.agg tlZ) W := by kernel_rfl
theorem tlZ_ne : (tlZ = #[]) = False := eq_false (by unfold tlZ; simp)
theorem tlZ_set : tlZ.setIfInBounds 0 (.bool true) = (tlC (List.replicate 25 Cn.zero)).toArray := by unfold tlZ tlC; simp
theorem new_any (W : World) : Calls Try.prog 7 #[] W fun e W' => e = .returned (.pointer (some ⟨W.heap.size, 0, none⟩)) ∧ W.alloc (.cells (tlC tl0).toArray 61) = W' := by
  have hz := tlZ_zero
  have hne := tlZ_ne
  have hst : tlZ.setIfInBounds 0 (.bool true) = (tlC tl0).toArray := tlZ_set
  go_enter Try.func7, Try.ntmps7
  go_wp2_with fail
  go_returns
  exact ⟨rfl, rfl⟩

theorem none_nil (W : World) : Calls Try.prog 26 #[.pointer none] W fun e W' => e = .returned (.bool true) ∧ W = W' := by
  go_enter Try.func26, Try.ntmps26
  go_wp2_with fail
  go_returns
  exact ⟨rfl, rfl⟩
theorem none_any (t : Nat) (b : Bool) (W : World) (hc : W.cell? ⟨t, 0, none⟩ = some (.bool b)) : Calls Try.prog 26 #[.pointer (some ⟨t, 0, none⟩)] W fun e W' => e = .returned (.bool (!b)) ∧ W = W' := by
  go_enter Try.func26, Try.ntmps26
  go_wp2_with fail
  go_returns
  exact ⟨rfl, rfl⟩
theorem at_nil (r : Int) (W : World) : Calls Try.prog 24 #[.pointer none, .int .i64 r] W fun e W' => e = .returned (.tuple #[.pointer none, .int .i64 1]) ∧ W = W' := by
  go_enter Try.func24, Try.ntmps24
  go_wp2_with fail
  refine (none_nil W).mono ?_
  rintro e w ⟨rfl, rfl⟩
  go_wp2_with fail
  go_returns
  exact ⟨rfl, rfl⟩
theorem at_empty (t : Nat) (r : Int) (W : World) (hc : W.cell? ⟨t, 0, none⟩ = some (.bool false)) : Calls Try.prog 24 #[.pointer (some ⟨t, 0, none⟩), .int .i64 r] W fun e W' => e = .returned (.tuple #[.pointer none, .int .i64 1]) ∧ W = W' := by
  go_enter Try.func24, Try.ntmps24
  go_wp2_with fail
  refine (none_any t false W hc).mono ?_
  rintro e w ⟨rfl, rfl⟩
  go_wp2_with fail
  go_returns
  exact ⟨rfl, rfl⟩
theorem at_arg (t : Nat) (r : Int) (W : World) (hc : W.cell? ⟨t, 0, none⟩ = some (.bool true)) (hr : r < 1 ∨ 24 < r) : Calls Try.prog 24 #[.pointer (some ⟨t, 0, none⟩), .int .i64 r] W fun e W' => e = .returned (.tuple #[.pointer none, .int .i64 2]) ∧ W = W' := by
  have HR := Lib.hid hr
  clear hr
  go_enter Try.func24, Try.ntmps24
  go_wp2_with fail
  refine (none_any t true W hc).mono ?_
  rintro e w ⟨rfl, rfl⟩
  rcases HR.out with h | h
  all_goals
    go_wp2_with fail
    go_returns
    exact ⟨rfl, rfl⟩
theorem at_any (t : Nat) (r : Nat) (W : World) (hc : W.cell? ⟨t, 0, none⟩ = some (.bool true)) (h1 : 1 ≤ r) (h2 : r ≤ 24) : Calls Try.prog 24 #[.pointer (some ⟨t, 0, none⟩), .int .i64 r] W fun e W' => e = .returned (.tuple #[.pointer (some ⟨t, r * 6 + 1, none⟩), .int .i64 0]) ∧ W = W' := by
  have hr1 : decide ((r : Int) < 1) = false := decide_eq_false (by omega)
  have hr2 : decide ((24 : Int) < (r : Int)) = false := decide_eq_false (by omega)
  go_enter Try.func24, Try.ntmps24
  go_wp2_with fail
  refine (none_any t true W hc).mono ?_
  rintro e w ⟨rfl, rfl⟩
  go_wp2_with fail
  go_returns
  exact ⟨by rw [Nat.add_comm (r * 6) 1]; rfl, rfl⟩

theorem TAt.c0 {W : World} {B t : Nat} {L : List Cn} (H : TAt W B t L) : W.cell? ⟨t, 0, none⟩ = some (.bool true) := (cell_of_row _ _ 0 _ _ _ H.row).trans (by simp [tlC])
theorem TAt.lt {W : World} {B t : Nat} {L : List Cn} (H : TAt W B t L) : t < W.heap.size := (Array.getElem?_eq_some_iff.1 H.row).1
theorem TAt.later {W V : World} {B t : Nat} {L : List Cn} (H : TAt W B t L) (hb : Below W.heap.size W V) : TAt V B t L := ⟨(hb.block t H.lt).trans H.row, H.base, H.len, H.ok⟩
theorem Cn.zero_ok : Cn.zero.ok := by unfold Cn.ok U64 Cn.zero; simp
theorem new_at (W : World) {B : Nat} (hB : B ≤ W.heap.size) : TAt (W.alloc (.cells (tlC tl0).toArray 61)) B W.heap.size tl0 :=
  ⟨heap_alloc_new _ _, hB, by simp [tl0], fun c hc => by rw [List.eq_of_mem_replicate hc]; exact Cn.zero_ok⟩
theorem sat_ok {a b : Int} (ha : U64 a) (hb : U64 b) : U64 (sat a b) := by unfold U64 sat at *; split <;> omega
theorem Cn.add_ok {a b : Cn} (ha : a.ok) (hb : b.ok) : (a.add b).ok := by
  obtain ⟨a0, a1, a2, a3, a4, a5⟩ := ha
  obtain ⟨b0, b1, b2, b3, b4, b5⟩ := hb
  exact ⟨sat_ok a0 b0, sat_ok a1 b1, sat_ok a2 b2, sat_ok a3 b3, sat_ok a4 b4, sat_ok a5 b5⟩
theorem grown_behind {W V X : World} {row : Option Nat} (hb : Below W.heap.size W V) (hg : V.grownBy X row) : W.grownBy X row :=
  ⟨hg.os.trans hb.os, hg.tape.trans hb.tape, hg.output.trans hb.output, Nat.le_trans hb.size hg.size, fun k hk hne => (hg.block k (Nat.lt_of_lt_of_le hk hb.size) hne).trans (hb.block k hk)⟩
theorem grown_ahead {W V X : World} {row : Option Nat} (hg : W.grownBy V row) (hb : Below V.heap.size V X) : W.grownBy X row :=
  ⟨hb.os.trans hg.os, hb.tape.trans hg.tape, hb.output.trans hg.output, Nat.le_trans hg.size hb.size, fun k hk hne => (hb.block k (Nat.lt_of_lt_of_le hk hg.size)).trans (hg.block k hk hne)⟩
theorem grown_trans {W V X : World} {row : Option Nat} (hg : W.grownBy V row) (hb : V.grownBy X row) : W.grownBy X row :=
  ⟨hb.os.trans hg.os, hb.tape.trans hg.tape, hb.output.trans hg.output, Nat.le_trans hg.size hb.size, fun k hk hne => (hb.block k (Nat.lt_of_lt_of_le hk hg.size) hne).trans (hg.block k hk hne)⟩
theorem grown_none {W V : World} (hb : Below W.heap.size W V) (row : Option Nat) : W.grownBy V row :=
  ⟨hb.os, hb.tape, hb.output, hb.size, fun k hk _ => hb.block k hk⟩
theorem TAt.kept {W V : World} {B t : Nat} {L : List Cn} {row : Option Nat} (H : TAt W B t L) (hg : W.grownBy V row) (hne : some t ≠ row) : TAt V B t L := ⟨(hg.block t H.lt hne).trans H.row, H.base, H.len, H.ok⟩
theorem TAt.bel {W V X : World} {B C t : Nat} {L : List Cn} (H : TAt V B t L) (hb : Below C W V) (hg : V.grownBy X (some t)) (hC : C ≤ B) : Below C W X :=
  hb.grown hg (by have := H.base; have := H.lt; omega) (fun k hk => by cases hk; have := H.base; omega)
/-- A tally in which one router's counts are other ones; nothing else that was there. -/
theorem TAt.put {W V : World} {B t r : Nat} {L : List Cn} {c : Cn} (H : TAt W B t L) (hr : r ≤ 24) (hc : c.ok) (hw : Wr W V t 61 (put6 (tlC L).toArray (r * 6 + 1) c)) : TAt V B t (L.set r c) ∧ W.grownBy V (some t) := by
  refine ⟨⟨?_, H.base, by rw [List.length_set]; exact H.len, fun x hx => ?_⟩, hw.os, hw.tape, hw.output, hw.size, fun k hk hne => hw.block k hk (fun e => hne (by rw [e]))⟩
  · rw [← tlC_put]; exact hw.row
  · rcases List.mem_or_eq_of_mem_set hx with h | h
    · exact H.ok x h
    · rw [h]; exact hc

theorem bad_any (t r : Nat) (B : Nat) (L : List Cn) (W : World) (H : TAt W B t L) (h1 : 1 ≤ r) (h2 : r ≤ 24) :
    Calls Try.prog 19 #[.pointer (some ⟨t, 0, none⟩), .int .i64 r] W fun e W' => e = .returned (.int .i64 0) ∧ TAt W' B t (L.set r ((L.getD r default).add ⟨1, 0, 0, 0, 0, 1⟩)) ∧ W.grownBy W' (some t) := by
  have hrl : r < L.length := by rw [H.len]; omega
  have hok : (L.getD r default).ok := H.ok _ (by rw [List.getD_eq_getElem?_getD, List.getElem?_eq_getElem hrl]; exact List.getElem_mem hrl)
  have hk1 : (⟨1, 0, 0, 0, 0, 1⟩ : Cn).ok := by unfold Cn.ok U64; simp
  have hadd := add_any t (r * 6 + 1) 61 _ _ ⟨1, 0, 0, 0, 0, 1⟩ W H.row (tlC_six hrl) hok hk1
  have HA := Lib.hid hadd
  have HE := Lib.hid (fun V hw => TAt.put (V := V) H h2 (Cn.add_ok hok hk1) hw)
  have HN := Lib.hid (at_any t r W H.c0 h1 h2)
  clear hadd hok hk1 hrl H
  go_enter Try.func19, Try.ntmps19
  go_wp2_with fail
  refine HN.out.mono ?_
  rintro e w ⟨rfl, rfl⟩
  go_wp2_with fail
  refine HA.out.mono ?_
  rintro e V ⟨rfl, hw⟩
  have hq := HE.out V hw
  clear hw
  go_wp2_with fail
  go_returns
  exact ⟨rfl, hq⟩
theorem clear_any (t r : Nat) (B : Nat) (L : List Cn) (W : World) (H : TAt W B t L) (h1 : 1 ≤ r) (h2 : r ≤ 24) :
    Calls Try.prog 12 #[.pointer (some ⟨t, 0, none⟩), .int .i64 r] W fun e W' => e = .returned (.int .i64 0) ∧ TAt W' B t (L.set r Cn.zero) ∧ W.grownBy W' (some t) := by
  have hrl : r < L.length := by rw [H.len]; omega
  have HE := Lib.hid (fun V hw => TAt.put (V := V) H h2 Cn.zero_ok hw)
  have HN := Lib.hid (at_any t r W H.c0 h1 h2)
  obtain ⟨d0, d1, d2, d3, d4, d5⟩ := tlC_six hrl
  have c0 := (cell_of_row _ _ _ _ _ _ H.row).trans d0
  have c1 := (cell_of_row _ _ _ _ _ _ H.row).trans d1
  have c2 := (cell_of_row _ _ _ _ _ _ H.row).trans d2
  have c3 := (cell_of_row _ _ _ _ _ _ H.row).trans d3
  have c4 := (cell_of_row _ _ _ _ _ _ H.row).trans d4
  have c5 := (cell_of_row _ _ _ _ _ _ H.row).trans d5
  have f0 := frozen_of_row _ _ (r * 6 + 1) _ _ H.row
  have f1 := frozen_of_row _ _ (r * 6 + 1 + 1) _ _ H.row
  have f2 := frozen_of_row _ _ (r * 6 + 1 + 2) _ _ H.row
  have f3 := frozen_of_row _ _ (r * 6 + 1 + 3) _ _ H.row
  have f4 := frozen_of_row _ _ (r * 6 + 1 + 4) _ _ H.row
  have f5 := frozen_of_row _ _ (r * 6 + 1 + 5) _ _ H.row
  have hw0 : Wr W W t 61 (tlC L).toArray := ⟨rfl, rfl, rfl, Nat.le_refl _, fun _ _ _ => rfl, H.row⟩
  have HQ := Lib.hid (HE.out _ ((((((hw0.set (r * 6 + 1) (.int .u64 0)).set (r * 6 + 1 + 1) (.int .u64 0)).set (r * 6 + 1 + 2) (.int .u64 0)).set (r * 6 + 1 + 3) (.int .u64 0)).set (r * 6 + 1 + 4) (.int .u64 0)).set (r * 6 + 1 + 5) (.int .u64 0)))
  clear H d0 d1 d2 d3 d4 d5 hw0 HE
  go_enter Try.func12, Try.ntmps12
  go_wp2_with fail
  refine HN.out.mono ?_
  rintro e w ⟨rfl, rfl⟩
  go_wp2_with fail
  go_returns
  exact ⟨rfl, HQ.out⟩
theorem At_any (t r : Nat) (B : Nat) (L : List Cn) (W : World) (H : TAt W B t L) (h1 : 1 ≤ r) (h2 : r ≤ 24) :
    Calls Try.prog 10 #[.pointer (some ⟨t, 0, none⟩), .int .i64 r] W fun e W' => e = .returned (.tuple #[(L.getD r default).ag, .int .i64 0]) ∧ Below W.heap.size W W' := by
  have hrl : r < L.length := by rw [H.len]; omega
  obtain ⟨W1, hW1⟩ : ∃ W1, W1 = W.alloc (.cells #[.int .u64 0, .int .u64 0, .int .u64 0, .int .u64 0, .int .u64 0, .int .u64 0] 37) := ⟨_, rfl⟩
  have hb1 : Below W.heap.size W W1 := by rw [hW1]; exact (Below.refl _ _).alloc (Nat.le_refl _) _
  have H1 := H.later hb1
  have hn : W1.heap[W.heap.size]? = some (.cells #[.int .u64 0, .int .u64 0, .int .u64 0, .int .u64 0, .int .u64 0, .int .u64 0] 37 (0, 0)) := by rw [hW1]; exact heap_alloc_new _ _
  have HW1 := Lib.hid hW1
  have HB := Lib.hid hb1
  have HN := Lib.hid (at_any t r W1 H1.c0 h1 h2)
  obtain ⟨d0, d1, d2, d3, d4, d5⟩ := tlC_six hrl
  have c0 := (cell_of_row _ _ _ _ _ _ H1.row).trans d0
  have c1 := (cell_of_row _ _ _ _ _ _ H1.row).trans d1
  have c2 := (cell_of_row _ _ _ _ _ _ H1.row).trans d2
  have c3 := (cell_of_row _ _ _ _ _ _ H1.row).trans d3
  have c4 := (cell_of_row _ _ _ _ _ _ H1.row).trans d4
  have c5 := (cell_of_row _ _ _ _ _ _ H1.row).trans d5
  have e0 := cell_of_row _ _ 0 _ _ _ hn
  have e1 := cell_of_row _ _ 1 _ _ _ hn
  have e2 := cell_of_row _ _ 2 _ _ _ hn
  have e3 := cell_of_row _ _ 3 _ _ _ hn
  have e4 := cell_of_row _ _ 4 _ _ _ hn
  have e5 := cell_of_row _ _ 5 _ _ _ hn
  simp only [List.getElem?_toArray, List.getElem?_cons_zero, List.getElem?_cons_succ] at e0 e1 e2 e3 e4 e5
  have f0 := frozen_of_row _ _ 0 _ _ hn
  have f1 := frozen_of_row _ _ 1 _ _ hn
  have f2 := frozen_of_row _ _ 2 _ _ hn
  have f3 := frozen_of_row _ _ 3 _ _ hn
  have f4 := frozen_of_row _ _ 4 _ _ hn
  have f5 := frozen_of_row _ _ 5 _ _ hn
  have htl := H.lt
  have hne : ¬ t = W.heap.size := by omega
  have hne2 : ¬ W.heap.size = t := by omega
  obtain ⟨c, hc⟩ : ∃ c, c = L.getD r default := ⟨_, rfl⟩
  rw [← hc] at c0 c1 c2 c3 c4 c5 ⊢
  have hbs := fun (V : World) (h : Below W.heap.size W V) (j : Nat) (u : Value) => h.setCell (p := ⟨W.heap.size, j, none⟩) (Nat.le_refl _) u
  have HBE := Lib.hid (hbs _ (hbs _ (hbs _ (hbs _ (hbs _ (hbs _ hb1 0 (.int .u64 c.got)) 1 (.int .u64 c.loc)) 2 (.int .u64 c.cop)) 3 (.int .u64 c.los)) 4 (.int .u64 c.exp)) 5 (.int .u64 c.bad))
  clear hW1 hb1 H H1 hn d0 d1 d2 d3 d4 d5 hc hbs
  go_enter Try.func10, Try.ntmps10
  go_wp2_with fail
  rw [← HW1.out]
  refine HN.out.mono ?_
  rintro e w ⟨rfl, rfl⟩
  go_wp2_with fail
  (try simp only [Exit.inBlock, Exit.then])
  refine bodyPost_ret (v := .tuple #[c.ag, .int .i64 0]) ?_ rfl ⟨rfl, HBE.out⟩
  simp only [results, Try.results10]
  go_simp
  rfl

end Go.Proofs.Ytnfdkgmikijbgaa
