/- Contracts of the record: numbers taken off bytes. -/
import Derived.Test.YtickjmkkgcfkhaaGreatRecH
import Derived.Test.YtickjmkkgcfkhaaGreatWireG1
set_option linter.unusedSimpArgs false
set_option linter.unusedVariables false
set_option maxRecDepth 100000
namespace Go.Proofs.YtickjmkkgcfkhaaGreat
open Go.RowKit Go.ChangeShapes Go.WideShapes

/-- What 'read' keeps. -/
structure RdS (b : Nat) (s : ByteArray) (p : Nat) (ok : Bool) (V : World) : Prop where
  str : V.heap[b]? = some (.cells #[.string s] 9 (0, 0))
  pos : V.heap[b + 1]? = some (.cells #[.int .i64 (p : Int)] 3 (0, 0))
  yes : V.heap[b + 2]? = some (.cells #[.bool ok] 4 (0, 0))
theorem RdS.later {b : Nat} {s : ByteArray} {p : Nat} {ok : Bool} {V X : World} (h : RdS b s p ok V) (hb : Below V.heap.size V X) : RdS b s p ok X :=
  ⟨(hb.block _ (Array.getElem?_eq_some_iff.1 h.str).1).trans h.str, (hb.block _ (Array.getElem?_eq_some_iff.1 h.pos).1).trans h.pos, (hb.block _ (Array.getElem?_eq_some_iff.1 h.yes).1).trans h.yes⟩
/-- Two blocks, b + 1 and b + 2, may have been laid anew, and new ones are there. -/
structure Fr (b : Nat) (W V : World) : Prop where
  os : V.os = W.os
  tape : V.tape = W.tape
  output : V.output = W.output
  size : W.heap.size ≤ V.heap.size
  block : ∀ k, k < W.heap.size → k ≠ b + 1 → k ≠ b + 2 → V.heap[k]? = W.heap[k]?
theorem Fr.bel {b B : Nat} {A W V : World} (h : Fr b W V) (hb : Below B A W) (hB : B ≤ b) (hs : B ≤ W.heap.size) : Below B A V :=
  hb.trans ⟨h.os, h.tape, h.output, h.size, fun k hk => h.block k (by omega) (by omega) (by omega)⟩
theorem Fr.keep {b k : Nat} {W V : World} {o : Obj} (h : Fr b W V) (hk : W.heap[k]? = some o) (h1 : k ≠ b + 1) (h2 : k ≠ b + 2) : V.heap[k]? = some o :=
  (h.block k (Array.getElem?_eq_some_iff.1 hk).1 h1 h2).trans hk

theorem read_any (s : ByteArray) (W : World) : Calls Tryz.prog 79 #[.string s] W fun e W' => e = .returned (.tuple #[.func (.func 97) #[] #[.pointer (some ⟨W.heap.size, 0, none⟩), .pointer (some ⟨W.heap.size + 1, 0, none⟩), .pointer (some ⟨W.heap.size + 2, 0, none⟩)], .func (.func 98) #[] #[.pointer (some ⟨W.heap.size + 2, 0, none⟩), .pointer (some ⟨W.heap.size + 1, 0, none⟩), .pointer (some ⟨W.heap.size, 0, none⟩)]]) ∧ RdS W.heap.size s 0 true W' ∧ Below W.heap.size W W' := by
  obtain ⟨X, hX⟩ : ∃ X, X = (W.alloc (.cells #[.string s] 9)).alloc (.cells #[.int .i64 0] 3) := ⟨_, rfl⟩
  obtain ⟨Y, hY⟩ : ∃ Y, Y = X.alloc (.cells #[.bool true] 4) := ⟨_, rfl⟩
  have hXs : X.heap.size = W.heap.size + 2 := by rw [hX, World.size_alloc, World.size_alloc]
  have hbX : Below W.heap.size W X := by rw [hX]; exact ((Below.refl _ _).alloc (Nat.le_refl _) _).alloc (by rw [World.size_alloc]; omega) _
  have hbY : Below X.heap.size X Y := by rw [hY]; exact (Below.refl _ _).alloc (Nat.le_refl _) _
  have HE := Lib.hid (show RdS W.heap.size s 0 true Y ∧ Below W.heap.size W Y from ⟨⟨(hbY.block _ (by omega)).trans (by rw [hX]; exact heap_alloc2_old _ _ _), (hbY.block _ (by omega)).trans (by rw [hX]; exact heap_alloc2_new _ _ _), by rw [hY, ← hXs]; exact heap_alloc_new _ _⟩, hbX.trans (hbY.mono hbX.size)⟩)
  have HX := Lib.hid hX
  have HY := Lib.hid hY
  clear hX hY hXs hbX hbY
  go_enter Tryz.func79, Tryz.ntmps79
  go_wp2_with fail
  rw [← HX.out, ← HY.out]
  go_ret2
  exact ⟨rfl, HE.out⟩

/-- A number off bytes; past their end 0. -/
def tk (s : ByteArray) (p m : Nat) : Nat := takeV s (p : Int) (m : Int)
theorem tk_in {s : ByteArray} {p m : Nat} (hm : m = 1 ∨ m = 2 ∨ m = 4) (h : p + m ≤ s.size) : tk s p m = seg s.data.toList p m := by
  unfold tk takeV
  rw [if_pos ⟨by omega, by omega, by omega⟩]
  rfl
theorem tk_lt (s : ByteArray) (p : Nat) {m : Nat} (hm : m = 1 ∨ m = 2 ∨ m = 4) : tk s p m < 256 ^ m := by
  unfold tk takeV
  split
  · exact segV_lt s _ _
  · exact Nat.pow_pos (by decide)
theorem tk_err {s : ByteArray} {p m : Nat} (hm : m = 1 ∨ m = 2 ∨ m = 4) : (p + m ≤ s.size ∧ takeE s (p : Int) (m : Int) = 0) ∨ (¬ p + m ≤ s.size ∧ takeE s (p : Int) (m : Int) = 4) := by
  unfold takeE
  rw [if_pos (by omega)]
  by_cases h : p + m ≤ s.size
  · exact .inl ⟨h, if_pos ⟨by omega, by omega⟩⟩
  · exact .inr ⟨h, if_neg (by omega)⟩

set_option maxHeartbeats 1600000 in
theorem takec_any (b : Nat) (s : ByteArray) (p m : Nat) (ok : Bool) (W : World) (h : RdS b s p ok W) (hm : m = 1 ∨ m = 2 ∨ m = 4) (hp : p ≤ 100000) (hs : s.size ≤ 140737488355328) :
    Calls Tryz.prog 97 #[.int .i64 m, .pointer (some ⟨b, 0, none⟩), .pointer (some ⟨b + 1, 0, none⟩), .pointer (some ⟨b + 2, 0, none⟩)] W fun e W' => e = .returned (.int .u64 (tk s p m : Nat)) ∧ RdS b s (p + m) (ok && decide (p + m ≤ s.size)) W' ∧ Fr b W W' := by
  have c0 := (cell_of_row _ _ 0 _ _ _ h.str).trans rfl
  have c1 := (cell_of_row _ _ 0 _ _ _ h.pos).trans rfl
  have c2 := (cell_of_row _ _ 0 _ _ _ h.yes).trans rfl
  have f1 := frozen_of_row _ _ 0 _ _ h.pos
  have f2 := frozen_of_row _ _ 0 _ _ h.yes
  have HT := Lib.hid (take_any s p m W (by omega) hs)
  have hpm : (p : Int) + (m : Int) = ((p + m : Nat) : Int) := by omega
  have hw : IntKind.i64.wrap ((p : Int) + (m : Int)) = ((p + m : Nat) : Int) := by rw [IntWalk.i64_in _ (by omega)]; omega
  obtain ⟨q, hq⟩ : ∃ q, q = p + m := ⟨_, rfl⟩
  have hq2 : q ≤ 200000 := by omega
  rw [← hq] at hpm hw
  have HEND := Lib.hid (show ∀ o : Bool, RdS b s q o ((W.setCell ⟨b + 2, 0, none⟩ (.bool o)).setCell ⟨b + 1, 0, none⟩ (.int .i64 (q : Int))) ∧ Fr b W ((W.setCell ⟨b + 2, 0, none⟩ (.bool o)).setCell ⟨b + 1, 0, none⟩ (.int .i64 (q : Int))) from fun o => by
    have e2 := heap_setCell_same W (b + 2) 0 _ _ (.bool o) h.yes
    have e1 : (W.setCell ⟨b + 2, 0, none⟩ (.bool o)).heap[b + 1]? = some (.cells #[.int .i64 (p : Int)] 3 (0, 0)) := (heap_setCell_other W ⟨b + 2, 0, none⟩ (b + 1) _ (by simp)).trans h.pos
    refine ⟨⟨?_, ?_, ?_⟩, rfl, rfl, rfl, by simp, fun k _ h1 h2 => ?_⟩
    · exact (heap_setCell_other _ ⟨b + 1, 0, none⟩ b _ (by simp)).trans ((heap_setCell_other W ⟨b + 2, 0, none⟩ b _ (by simp)).trans h.str)
    · exact heap_setCell_same _ (b + 1) 0 _ _ _ e1
    · exact (heap_setCell_other _ ⟨b + 1, 0, none⟩ (b + 2) _ (by simp)).trans e2
    · exact (heap_setCell_other _ ⟨b + 1, 0, none⟩ k _ h1).trans (heap_setCell_other W ⟨b + 2, 0, none⟩ k _ h2))
  rcases tk_err (s := s) (p := p) hm with ⟨hin, he⟩ | ⟨hin, he⟩
  all_goals
    rw [he] at HT
    have HIN := Lib.hid hin
    have HQ := Lib.hid hq
    clear he hin hq h hm
    cases ok
    all_goals
      go_enter Tryz.func97, Tryz.ntmps97
      go_wp2_with fail
      refine HT.out.mono ?_
      rintro e w ⟨rfl, rfl⟩
      go_wp2_with fail
      go_returns
      refine ⟨rfl, ?_⟩
      first
        | (rw [← HQ.out, decide_eq_true (by rw [HQ.out]; exact HIN.out)]; exact HEND.out _)
        | (rw [← HQ.out, decide_eq_false (by rw [HQ.out]; exact HIN.out)]; exact HEND.out _)
theorem wholec_any (b : Nat) (s : ByteArray) (p : Nat) (ok : Bool) (W : World) (h : RdS b s p ok W) (hs : s.size ≤ 140737488355328) :
    Calls Tryz.prog 98 #[.pointer (some ⟨b + 2, 0, none⟩), .pointer (some ⟨b + 1, 0, none⟩), .pointer (some ⟨b, 0, none⟩)] W fun e W' => e = .returned (.bool (ok && decide (p = s.size))) ∧ W = W' := by
  have c0 := (cell_of_row _ _ 0 _ _ _ h.str).trans rfl
  have c1 := (cell_of_row _ _ 0 _ _ _ h.pos).trans rfl
  have c2 := (cell_of_row _ _ 0 _ _ _ h.yes).trans rfl
  by_cases hp : p = s.size
  all_goals
    have HP := Lib.hid hp
    first
      | (have e1 : ((p : Int) == (s.size : Int)) = true := by rw [beq_iff_eq]; omega)
      | (have e1 : ((p : Int) == (s.size : Int)) = false := by rw [beq_eq_false_iff_ne]; omega)
    first
      | (have e2 : (p == s.size) = true := by rw [beq_iff_eq]; omega)
      | (have e2 : (p == s.size) = false := by rw [beq_eq_false_iff_ne]; omega)
    clear hp h
    cases ok
    all_goals
      go_enter Tryz.func98, Tryz.ntmps98
      go_wp2_with fail
      go_returns
      refine ⟨?_, rfl⟩
      first
        | rfl
        | (rw [decide_eq_true HP.out]; rfl)
        | (rw [decide_eq_false HP.out]; rfl)

end Go.Proofs.YtickjmkkgcfkhaaGreat
