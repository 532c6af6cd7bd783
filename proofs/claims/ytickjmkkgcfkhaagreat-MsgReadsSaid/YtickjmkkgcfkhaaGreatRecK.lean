/- Contracts of the record: the record of bytes. -/
import Derived.Test.YtickjmkkgcfkhaaGreatRecJ
set_option linter.unusedSimpArgs false
set_option linter.unusedVariables false
set_option maxRecDepth 100000
namespace Go.Proofs.YtickjmkkgcfkhaaGreat
open Go.RowKit Go.ChangeShapes Go.WideShapes

def adjV (l : List (Int × Int)) : List Value := l.flatMap fun a => [Value.int .i64 a.1, Value.int .i64 a.2]
theorem adjV_len : ∀ l : List (Int × Int), (adjV l).length = l.length * 2
  | [] => rfl
  | a :: l => by
    show ([Value.int .i64 a.1, Value.int .i64 a.2] ++ adjV l).length = _
    rw [List.length_append, adjV_len l, List.length_cons]; simp; omega
theorem adjV_get : ∀ (l : List (Int × Int)) (i : Nat), i < l.length → (adjV l)[i * 2]? = some (.int .i64 (l.getD i default).1) ∧ (adjV l)[i * 2 + 1]? = some (.int .i64 (l.getD i default).2)
  | [], _, h => by simp at h
  | a :: l, 0, _ => ⟨rfl, rfl⟩
  | a :: l, i + 1, h => by
    have ih := adjV_get l i (by simpa using h)
    have e : adjV (a :: l) = [Value.int .i64 a.1, Value.int .i64 a.2] ++ adjV l := rfl
    rw [e, show (i + 1) * 2 = i * 2 + 2 from by omega, show i * 2 + 2 + 1 = (i * 2 + 1) + 2 from by omega]
    exact ⟨ih.1, ih.2⟩
/-- Neighbours that the call made itself. -/
def ARow (V : World) (B : Nat) (sa : Option Addr) (sc : Nat) (xs : List (Int × Int)) : Prop := Row V B 45 2 (.slice sa xs.length sc) xs.length (adjV xs)
theorem ARow.adjs {V : World} {B : Nat} {sa : Option Addr} {sc : Nat} {xs : List (Int × Int)} (h : ARow V B sa sc xs) : AdjsIn V sa xs := fun i hi => by
  obtain ⟨g, cap, he, _, _, _, _, hc, _⟩ := Row.form h (by omega)
  simp only [Value.slice.injEq] at he
  obtain ⟨rfl, _, _⟩ := he
  obtain ⟨h1, h2⟩ := adjV_get xs i hi
  refine ⟨_, rfl, ?_, ?_⟩
  · rw [Addr.add_mid, Nat.zero_add, hc _ (by omega)]; exact h1
  · rw [Addr.add_mid, Nat.zero_add]; exact (hc (i * 2 + 1) (by omega)).trans h2
theorem infoA : (Tryz.prog.info? 45).map (fun i => (i.zero, i.size, i.bytes)) = some (some (.agg #[.int .i64 0, .int .i64 0]), 2, 16) := by kernel_rfl
theorem cell_two_new2 (W : World) (u v : Value) (t : TypeId) : ∀ j x, [u, v][j]? = some x → (W.alloc (.cells #[u, v] t)).cell? ((⟨W.heap.size, 0, none⟩ : Addr).add j) = some x := by
  intro j x hx
  rw [Addr.add_mid, Nat.zero_add, cell_of_row _ _ _ _ _ _ (heap_alloc_new _ _)]
  simpa using hx

/-- What takes tell of. -/
def adjT (s : ByteArray) (k : Nat) : List (Int × Int) := (List.range k).map fun i => ((tk s (13 + 3 * i) 1 : Nat), (tk s (14 + 3 * i) 2 : Nat))
theorem adjT_len (s : ByteArray) (k : Nat) : (adjT s k).length = k := by simp [adjT]
theorem adjT_succ (s : ByteArray) (k : Nat) : adjT s (k + 1) = adjT s k ++ [(((tk s (13 + 3 * k) 1 : Nat) : Int), ((tk s (14 + 3 * k) 2 : Nat) : Int))] := by simp [adjT, List.range_succ]
def rcT (s : ByteArray) (g : Bool) (k : Nat) : Rc := ⟨(tk s 0 1 : Nat), tk s 1 4, tk s 5 4, (tk s 9 2 : Nat), g, adjT s k⟩
theorem rcT_ok (s : ByteArray) (g : Bool) (k : Nat) : (rcT s g k).ok := by
  have h0 := tk_lt s 0 (m := 1) (by omega)
  have h1 := tk_lt s 1 (m := 4) (by omega)
  have h2 := tk_lt s 5 (m := 4) (by omega)
  have h3 := tk_lt s 9 (m := 2) (by omega)
  exact ⟨by simp only [rcT]; omega, by simp only [rcT]; omega, by simp only [rcT]; omega, by simp only [rcT]; omega⟩
theorem adjT_in {s : ByteArray} : ∀ k, 13 + 3 * k ≤ s.size → adjT s k = decA s.data.toList k := by
  intro k hk
  unfold adjT decA
  apply List.map_congr_left
  intro i hi
  have := List.mem_range.1 hi
  rw [tk_in (by omega) (by omega), tk_in (by omega) (by omega)]
theorem rcT_in {s : ByteArray} (h : s.size = 13 + 3 * tk s 12 1) : rcT s (tk s 11 1 == 1) (tk s 12 1) = cand s.data.toList := by
  unfold rcT cand
  rw [adjT_in _ (by omega), tk_in (p := 0) (by omega) (by omega), tk_in (p := 1) (by omega) (by omega), tk_in (p := 5) (by omega) (by omega), tk_in (p := 9) (by omega) (by omega), tk_in (p := 11) (by omega) (by omega), tk_in (p := 12) (by omega) (by omega)]
/-- When bytes are of none: too many neighbours, a wrong bit, another length. -/
theorem decOk_no {s : ByteArray} (h : 16 < tk s 12 1 ∨ 1 < tk s 11 1 ∨ s.size ≠ 13 + 3 * tk s 12 1) : decOk s.data.toList = false := by
  rw [Bool.eq_false_iff]
  intro hd
  simp only [decOk, size_len, Bool.and_eq_true, decide_eq_true_eq] at hd
  obtain ⟨⟨⟨h1, h2⟩, h3⟩, h4⟩ := hd
  rw [tk_in (p := 12) (by omega) (by omega), tk_in (p := 11) (by omega) (by omega)] at h
  simp only [Rc.chk, Bool.and_eq_true, decide_eq_true_eq] at h4
  have h5 : (cand s.data.toList).adjs.length = seg s.data.toList 12 1 := decA_len _ _
  omega
theorem decOk_yes {s : ByteArray} (h1 : ¬ 16 < tk s 12 1) (h2 : ¬ 1 < tk s 11 1) (h3 : s.size = 13 + 3 * tk s 12 1) : decOk s.data.toList = (cand s.data.toList).chk := by
  have h4 := h3
  rw [tk_in (p := 12) (by omega) (by omega)] at h3
  rw [tk_in (p := 11) (by omega) (by omega)] at h2
  unfold decOk
  rw [size_len, decide_eq_true (show 13 ≤ s.size by omega), decide_eq_true (show seg s.data.toList 11 1 ≤ 1 by omega), decide_eq_true h3]
  simp

structure DeS (W : World) (s : ByteArray) (p : Nat) (ok : Bool) (V : World) : Prop where
  res : BoxR W.heap.size Rc.zero none 0 V
  rd : RdS (W.heap.size + 1) s p ok V
  bel : Below W.heap.size W V
theorem DeS.later {W V X : World} {s : ByteArray} {p : Nat} {ok : Bool} (h : DeS W s p ok V) (hb : Below V.heap.size V X) : DeS W s p ok X := ⟨h.res.later hb, h.rd.later hb, h.bel.trans (hb.mono h.bel.size)⟩
theorem DeS.fr {W V X : World} {s : ByteArray} {p q : Nat} {ok o : Bool} (h : DeS W s p ok V) (hr : RdS (W.heap.size + 1) s q o X) (hf : Fr (W.heap.size + 1) V X) : DeS W s q o X :=
  ⟨hf.keep h.res (by omega) (by omega), hr, hf.bel h.bel (by omega) h.bel.size⟩
theorem DeS.grown {W V X : World} {s : ByteArray} {p : Nat} {ok : Bool} {row : Option Nat} (h : DeS W s p ok V) (hg : V.grownBy X row) (hr : ∀ k, row = some k → W.heap.size + 3 < k) : DeS W s p ok X :=
  ⟨(hg.block _ (Array.getElem?_eq_some_iff.1 h.res).1 (fun e => by have := hr _ e.symm; omega)).trans h.res,
    ⟨(hg.block _ (Array.getElem?_eq_some_iff.1 h.rd.str).1 (fun e => by have := hr _ e.symm; omega)).trans h.rd.str, (hg.block _ (Array.getElem?_eq_some_iff.1 h.rd.pos).1 (fun e => by have := hr _ e.symm; omega)).trans h.rd.pos, (hg.block _ (Array.getElem?_eq_some_iff.1 h.rd.yes).1 (fun e => by have := hr _ e.symm; omega)).trans h.rd.yes⟩,
    h.bel.grown hg h.bel.size (fun k hk => by have := hr k hk; omega)⟩
def DecRel (W : World) (s : ByteArray) (q n : Nat) (g : Bool) (i : Value) (V : World) : Prop :=
  ∃ (k : Nat) (sa : Option Addr) (sc : Nat), i = .int .u64 k ∧ k ≤ n ∧ DeS W s (13 + 3 * k) (decide (13 + 3 * k ≤ s.size)) V ∧ BoxR q (rcT s g k) sa sc V ∧ ARow V (q + 1) sa sc (adjT s k) ∧ W.heap.size + 3 < q

end Go.Proofs.YtickjmkkgcfkhaaGreat
