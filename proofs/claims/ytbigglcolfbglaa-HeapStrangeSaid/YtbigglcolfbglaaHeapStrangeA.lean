/- An order by a table of bits; counts. -/
import Derived.Test.YtbigglcolfbglaaHeapT
import Derived.Outline
set_option linter.unusedSimpArgs false
set_option linter.unusedVariables false
namespace Go.Proofs.Ytbigglcolfbglaa
open Go.RowKit Go.ChangeShapes Go.WideShapes

/-- The cells of a list of small integers. -/
def U8At (W : World) (a0 : Option Addr) (xs : List Int) : Prop := ∀ i, i < xs.length → ∃ ad, a0 = some ad ∧ W.cell? (ad.add i) = some (.int .u8 (xs.getD i default)) ∧ 0 ≤ xs.getD i default ∧ xs.getD i default ≤ 255
theorem u8_open {H : Type} {enc : TypeId × Value → H} {r : Reach} {base : Nat} {W : World} {v : Value} {d : DataW H} {p : List MemPlace} (hv : Value.okWide Try.prog W r base 46 v) (h : DataW.Trod enc Try.prog W 0 (fun _ => true) true 46 v d p) (_ : ∀ n ∈ d.weights Try.prog 46, n ≤ reachBytes) :
    ∃ x : Option Addr × Nat × List Int, v = .slice x.1 x.2.2.length x.2.1 ∧ U8At W x.1 x.2.2 := by
  obtain ⟨a0, len, cap, rfl⟩ := okWide_slice Try.underlying46 hv
  obtain ⟨rows, hl, hf, hc, _⟩ := slice_rows (n := 5) (ts := [5]) Try.underlying46 (by kernel_rfl) (by kernel_rfl) h
  obtain ⟨xs, rfl, hQ⟩ := all_form (f := fun x : Int => [Value.int .u8 x]) (Q := fun x => 0 ≤ x ∧ x ≤ 255) rows (by
    intro i row hr
    obtain ⟨X, hX, _⟩ := hf i row hr
    obtain ⟨n0, e0, hw⟩ := hX.int (j := 0) rfl Try.underlying5
    refine ⟨n0, bounds_u8 hw, ?_⟩
    have hl := hX.1
    match row, hl with
    | [x], _ => simp at e0; rw [e0])
  rw [List.length_map] at hl
  refine ⟨(a0, cap, xs), by rw [← hl], fun i hi => ?_⟩
  have hrow : (xs.map (fun x : Int => [Value.int .u8 x]))[i]? = some [Value.int .u8 (xs.getD i default)] := by simp [List.getD_eq_getElem?_getD, hi]
  obtain ⟨ad, h1, h2⟩ := hc i 0 _ _ hrow rfl
  have hm : xs.getD i default ∈ xs := by rw [List.getD_eq_getElem?_getD, List.getElem?_eq_getElem hi]; exact List.getElem_mem hi
  exact ⟨ad, h1, by simpa using h2, hQ _ hm⟩

/-- An order by a table of bits. -/
def stB (order x y : Int) : Bool := bits BinOp.and IntKind.u64 (order / 2 ^ ((7 * x + y) % 64).toNat) 1 == 1
def wlt (order x y : Int) : Bool := stB order (x % 8) (y % 8)
theorem strange_any (order x y : Int) (V : World) (ho : 0 ≤ order ∧ order ≤ 18446744073709551615) (hx : 0 ≤ x ∧ x ≤ 7) (hy : 0 ≤ y ∧ y ≤ 7) :
    Calls Try.prog 20 #[.int .u64 order, .int .i64 x, .int .i64 y] V fun e V' => e = .returned (.bool (stB order x y)) ∧ V = V' := by
  obtain ⟨hx1, hx2⟩ := hx
  obtain ⟨hy1, hy2⟩ := hy
  obtain ⟨ho1, ho2⟩ := ho
  go_enter Try.func20, Try.ntmps20
  go_wp2_with fail
  go_ret
  exact ⟨rfl, rfl⟩
theorem wild_any (order x y : Int) (p : Nat) (V : World) (ho : 0 ≤ order ∧ order ≤ 18446744073709551615) (hx : 0 ≤ x ∧ x ≤ 255) (hy : 0 ≤ y ∧ y ≤ 255) (hp : V.cell? ⟨p, 0, none⟩ = some (.int .u64 order)) :
    Calls Try.prog 19 #[.int .i64 x, .int .i64 y, .pointer (some ⟨p, 0, none⟩)] V fun e V' => e = .returned (.bool (wlt order x y)) ∧ Below V.heap.size V V' := by
  obtain ⟨hx1, hx2⟩ := hx
  obtain ⟨hy1, hy2⟩ := hy
  have HC := Lib.hid (strange_any order (x % 8) (y % 8) V ho (by omega) (by omega))
  go_enter Try.func19, Try.ntmps19
  go_wp2_with fail
  refine HC.out.mono ?_
  rintro e w' ⟨rfl, rfl⟩
  go_wp2_with fail
  go_ret
  exact ⟨rfl, Below.refl _ _⟩
theorem wOrder (order : Int) (p B : Nat) (ho : 0 ≤ order ∧ order ≤ 18446744073709551615) (hp : p < B) :
    Order Try.prog iV B 19 #[.pointer (some ⟨p, 0, none⟩)] (wlt order) (fun x => 0 ≤ x ∧ x ≤ 255) (fun V => V.cell? ⟨p, 0, none⟩ = some (.int .u64 order)) where
  enter args w := by kernel_rfl
  stays V V' hb h := (hb.cell (p := ⟨p, 0, none⟩) hp).trans h
  calls x y V hx hy hI _ := wild_any order x y p V ho hx hy hI

/-! ### counts -/
/-- How often each number occurs. -/
def cntF (l : List Int) (i : Nat) : Int := (l.count (i : Int) : Int)
def fL (f : Nat → Int) : List Value := (List.range 256).map fun i => .int .i64 (f i)
theorem fL_length (f : Nat → Int) : (fL f).length = 256 := by simp [fL]
theorem fL_get (f : Nat → Int) {i : Nat} (h : i < 256) : (fL f)[i]? = some (.int .i64 (f i)) := by simp [fL, h]
theorem fL_set (f : Nat → Int) (v : Nat) (x : Int) : (fL f).set v (.int .i64 x) = fL fun i => if i = v then x else f i := by
  apply List.ext_getElem?
  intro i
  simp only [fL, List.getElem?_set, List.length_map, List.length_range, List.getElem?_map]
  by_cases h : v = i
  · subst h
    by_cases hv : v < 256
    · simp [hv]
    · simp [hv]
  · by_cases hi : i < 256
    · simp [h, hi, Ne.symm h]
    · simp [h, hi]
theorem cntF_snoc (l : List Int) (x : Int) (v : Nat) (hv : x = (v : Int)) (f : Nat → Int) (hf : f = cntF l) : (fun i => if i = v then f v + 1 else f i) = cntF (l ++ [x]) := by
  subst hf
  funext i
  simp only [cntF, List.count_append, List.count_cons, List.count_nil, hv]
  by_cases h : i = v
  · subst h; simp
  · have : ((v : Int) == (i : Int)) = false := by rw [beq_eq_false_iff_ne]; omega
    simp [h, this]
theorem cntF_perm {l m : List Int} (h : l.Perm m) : cntF l = cntF m := by funext i; simp [cntF, h.count_eq]

/-- Blocks that a heap's call leaves alone. -/
def Safe (h : Nat) (s : Value) (w : World) (q : Nat) : Prop := q < w.heap.size ∧ q ≠ h ∧ s.ownBlock ≠ some q
theorem Touch.safe {w V : World} {h q : Nat} {s s' : Value} (T : Touch w V h s s') (hq : Safe h s w q) : Safe h s' V q ∧ V.heap[q]? = w.heap[q]? := by
  obtain ⟨h1, h2, h3⟩ := hq
  refine ⟨⟨Nat.lt_of_lt_of_le h1 T.size, h2, fun e => ?_⟩, T.block q h1 h2 h3⟩
  rcases T.own with e' | ⟨k, e', hk⟩
  · exact h3 (e' ▸ e)
  · rw [e'] at e; simp only [Option.some.injEq] at e; omega
theorem Safe.later {w V : World} {h q : Nat} {s : Value} (hq : Safe h s w q) (hb : w.heap.size ≤ V.heap.size) : Safe h s V q := ⟨Nat.lt_of_lt_of_le hq.1 hb, hq.2.1, hq.2.2⟩

/-! ### a heap and three rows of integers, all apart -/
structure SS (W1 : World) (h G : Nat) (caps : Array Value) (L : List (Int × Nat)) (n : Nat) (s a : Value) (na : Nat) (xa : List Value) (b : Value) (nb : Nat) (xb : List Value) (c : Value) (nc : Nat) (xc : List Value) (w : World) : Prop where
  at_ : iAt w h h G caps L n s
  ra : Row w h 3 1 a na xa
  rb : Row w h 3 1 b nb xb
  rc : Row w h 3 1 c nc xc
  bel : Below h W1 w
  sa : ∀ q, a.ownBlock = some q → Safe h s w q ∧ b.ownBlock ≠ some q ∧ c.ownBlock ≠ some q
  sb : ∀ q, b.ownBlock = some q → Safe h s w q ∧ c.ownBlock ≠ some q
  sc : ∀ q, c.ownBlock = some q → Safe h s w q
section
variable {W1 w w' : World} {h G : Nat} {caps : Array Value} {L : List (Int × Nat)} {n : Nat} {s a : Value} {na : Nat} {xa : List Value} {b : Value} {nb : Nat} {xb : List Value} {c : Value} {nc : Nat} {xc : List Value}
theorem SS.later (H : SS W1 h G caps L n s a na xa b nb xb c nc xc w) (hb : Below w.heap.size w w') : SS W1 h G caps L n s a na xa b nb xb c nc xc w' :=
  ⟨HeapAt.later H.at_ hb, H.ra.later hb, H.rb.later hb, H.rc.later hb, H.bel.trans (hb.mono (by have := H.at_.lt; omega)),
    fun q hq => ⟨(H.sa q hq).1.later hb.size, (H.sa q hq).2⟩, fun q hq => ⟨(H.sb q hq).1.later hb.size, (H.sb q hq).2⟩, fun q hq => (H.sc q hq).later hb.size⟩
/-- An append to the first row. -/
theorem SS.append (H : SS W1 h G caps L n s a na xa b nb xb c nc xc w) {a' : Value} {na' : Nat} {xa' : List Value} (hr : Row w' h 3 1 a' na' xa') (hg : w.grownBy w' a.ownBlock) (ho : a'.ownBlock = a.ownBlock ∨ a'.ownBlock = some w.heap.size) :
    SS W1 h G caps L n s a' na' xa' b nb xb c nc xc w' := by
  have hsz := hg.size
  have hbl := fun (q : Nat) (hq : Safe h s w q) => hq.later hsz
  refine ⟨HeapAt.same H.at_ (hg.block _ H.at_.lt fun e => (H.sa _ e.symm).1.2.1 rfl) fun q hq => hg.block q (H.at_.row.lt q hq).2 fun e => (H.sa q e.symm).1.2.2 hq, hr, ?_, ?_, H.bel.grown hg (by have := H.at_.lt; omega) fun q hq => (H.ra.lt q hq).1, fun q hq => ?_, fun q hq => ⟨hbl q (H.sb q hq).1, (H.sb q hq).2⟩, fun q hq => hbl q (H.sc q hq)⟩
  · exact H.rb.same fun q hq => hg.block q (H.rb.lt q hq).2 fun e => (H.sa q e.symm).2.1 hq
  · exact H.rc.same fun q hq => hg.block q (H.rc.lt q hq).2 fun e => (H.sa q e.symm).2.2 hq
  · rcases ho with e | e
    · exact ⟨hbl q (H.sa q (e ▸ hq)).1, (H.sa q (e ▸ hq)).2⟩
    · have hq' := (hr.lt q hq).2
      rw [e] at hq
      simp only [Option.some.injEq] at hq
      subst hq
      exact ⟨⟨hq', by have := H.at_.lt; omega, fun e' => by have := (H.at_.row.lt _ e').2; omega⟩, fun e' => by have := (H.rb.lt _ e').2; omega, fun e' => by have := (H.rc.lt _ e').2; omega⟩
/-- A fresh first row. -/
theorem SS.freshA (H : SS W1 h G caps L n s a na xa b nb xb c nc xc w) (hb : Below w.heap.size w w') {a' : Value} {na' : Nat} {xa' : List Value} (hr : Row w' w.heap.size 3 1 a' na' xa') : SS W1 h G caps L n s a' na' xa' b nb xb c nc xc w' := by
  have H' := H.later hb
  have hlt := H.at_.lt
  refine ⟨H'.at_, hr.more (by omega), H'.rb, H'.rc, H'.bel, fun q hq => ?_, H'.sb, H'.sc⟩
  have h1 := hr.lt q hq
  exact ⟨⟨h1.2, by omega, fun e' => by have := (H.at_.row.lt _ e').2; omega⟩, fun e' => by have := (H.rb.lt _ e').2; omega, fun e' => by have := (H.rc.lt _ e').2; omega⟩
/-- A fresh third row. -/
theorem SS.freshC (H : SS W1 h G caps L n s a na xa b nb xb c nc xc w) (hb : Below w.heap.size w w') {c' : Value} {nc' : Nat} {xc' : List Value} (hr : Row w' w.heap.size 3 1 c' nc' xc') : SS W1 h G caps L n s a na xa b nb xb c' nc' xc' w' := by
  have H' := H.later hb
  have hlt := H.at_.lt
  have key : ∀ q, c'.ownBlock = some q → w.heap.size ≤ q ∧ q < w'.heap.size := fun q hq => hr.lt q hq
  refine ⟨H'.at_, H'.ra, H'.rb, hr.more (by omega), H'.bel, fun q hq => ⟨(H'.sa q hq).1, (H'.sa q hq).2.1, fun e => ?_⟩, fun q hq => ⟨(H'.sb q hq).1, fun e => ?_⟩, fun q hq => ?_⟩
  · have := (key q e).1; have := (H.ra.lt q hq).2; omega
  · have := (key q e).1; have := (H.rb.lt q hq).2; omega
  · exact ⟨(key q hq).2, by have := (key q hq).1; omega, fun e' => by have := (key q hq).1; have := (H.at_.row.lt _ e').2; omega⟩
/-- A store into the second row, into the third. -/
theorem SS.setB {g cap j : Nat} {u : Value} (H : SS W1 h G caps L n s a na xa (.slice (some ⟨g, 0, none⟩) nb cap) nb xb c nc xc w) : SS W1 h G caps L n s a na xa (.slice (some ⟨g, 0, none⟩) nb cap) nb (xb.set j u) c nc xc (w.setCell ⟨g, j, none⟩ u) := by
  have hs := H.sb g rfl
  obtain ⟨h1, hg⟩ := H.rb.stored j u
  have hbl := fun (q : Nat) (hq : Safe h s w q) => hq.later hg.size
  refine ⟨HeapAt.set_new H.at_ (Ne.symm hs.1.2.1) hs.1.2.2, ?_, h1, ?_, H.bel.setCell (H.rb.lt g rfl).1 _, fun q hq => ⟨hbl q (H.sa q hq).1, (H.sa q hq).2⟩, fun q hq => ⟨hbl q (H.sb q hq).1, (H.sb q hq).2⟩, fun q hq => hbl q (H.sc q hq)⟩
  · exact H.ra.same fun q hq => heap_setCell_other _ _ _ _ (fun e => (H.sa q hq).2.1 (by simp at e; simp [Value.ownBlock, e]))
  · exact H.rc.same fun q hq => heap_setCell_other _ _ _ _ (fun e => hs.2 (by simp at e; rw [hq, e]))
theorem SS.setC {g cap j : Nat} {u : Value} (H : SS W1 h G caps L n s a na xa b nb xb (.slice (some ⟨g, 0, none⟩) nc cap) nc xc w) : SS W1 h G caps L n s a na xa b nb xb (.slice (some ⟨g, 0, none⟩) nc cap) nc (xc.set j u) (w.setCell ⟨g, j, none⟩ u) := by
  have hs := H.sc g rfl
  obtain ⟨h1, hg⟩ := H.rc.stored j u
  have hbl := fun (q : Nat) (hq : Safe h s w q) => hq.later hg.size
  refine ⟨HeapAt.set_new H.at_ (Ne.symm hs.2.1) hs.2.2, ?_, ?_, h1, H.bel.setCell (H.rc.lt g rfl).1 _, fun q hq => ⟨hbl q (H.sa q hq).1, (H.sa q hq).2⟩, fun q hq => ⟨hbl q (H.sb q hq).1, (H.sb q hq).2⟩, fun q hq => hbl q (H.sc q hq)⟩
  · exact H.ra.same fun q hq => heap_setCell_other _ _ _ _ (fun e => (H.sa q hq).2.2 (by simp at e; simp [Value.ownBlock, e]))
  · exact H.rb.same fun q hq => heap_setCell_other _ _ _ _ (fun e => (H.sb q hq).2 (by simp at e; simp [Value.ownBlock, e]))
/-- A heap's call. -/
theorem SS.call (H : SS W1 h G caps L n s a na xa b nb xb c nc xc w) {L' : List (Int × Nat)} {n' : Nat} {s' : Value} (hat : iAt w' h h G caps L' n' s') (T : Touch w w' h s s') : SS W1 h G caps L' n' s' a na xa b nb xb c nc xc w' :=
  ⟨hat, H.ra.same fun q hq => (T.safe (H.sa q hq).1).2, H.rb.same fun q hq => (T.safe (H.sb q hq).1).2, H.rc.same fun q hq => (T.safe (H.sc q hq)).2,
    H.bel.trans (T.below (by have := H.at_.lt; omega) (Nat.le_refl _) fun q hq => (H.at_.row.lt q hq).1), fun q hq => ⟨(T.safe (H.sa q hq).1).1, (H.sa q hq).2⟩, fun q hq => ⟨(T.safe (H.sb q hq).1).1, (H.sb q hq).2⟩, fun q hq => (T.safe (H.sc q hq)).1⟩
theorem SS.pushed {lt : Int → Int → Bool} {v : Int} (H : SS W1 h G caps L n s a na xa b nb xb c nc xc w) (hp : iPushed lt w h h G caps L v n s w') : ∃ s', SS W1 h G caps (up (lah lt) L.length (L ++ [(v, n)])) (n + 1) s' a na xa b nb xb c nc xc w' := by
  obtain ⟨s', hat, T⟩ := hp
  exact ⟨s', H.call hat T⟩
theorem SS.popped {lt : Int → Int → Bool} (H : SS W1 h G caps L n s a na xa b nb xb c nc xc w) (hp : iPopped lt w h h G caps L n s w') : ∃ s', SS W1 h G caps (popL (lah lt) L) n s' a na xa b nb xb c nc xc w' := by
  obtain ⟨s', hat, T⟩ := hp
  exact ⟨s', H.call hat T⟩
end

end Go.Proofs.Ytbigglcolfbglaa
