/- The walk of the law TallyPlays. -/
import Derived.Test.YtnfdkgmikijbgaaTallyU
import Derived.Test.YtnfdkgmikijbgaaTallyKnownW
set_option linter.unusedSimpArgs false
set_option linter.unusedVariables false
namespace Go.Proofs.Ytnfdkgmikijbgaa
open Go.RowKit Go.ChangeShapes Go.WideShapes Go.ChangeAt Go.Deep

/-- What is done. -/
structure Ac where
  w : Int
  r : Int
  d : Dn
def Ac.cells (a : Ac) : Array Value := #[.int .i64 a.w, .int .i64 a.r, .bool a.d.loc, .slice a.d.sa a.d.sn a.d.sc, .int .u64 a.d.los.a, .int .u64 a.d.los.b, .int .u64 a.d.los.c, .int .u64 a.d.los.d, .int .u64 a.d.exp.a, .int .u64 a.d.exp.b, .int .u64 a.d.exp.c, .int .u64 a.d.exp.d]
theorem Leafy.slice {H : Type} {enc : TypeId × Value → H} {P : Program} {w : World} {base : Nat} {spare : Nat → Bool} {held : Bool} {ts : List TypeId} {cs : List Value} {W : List Nat} (h : Leafy enc P w base spare held ts cs W) {j : Nat} {t e : TypeId} (ht : ts[j]? = some t) (hu : P.underlying t = some (.slice e)) :
    ∃ a n cap, cs[j]? = some (.slice a n cap) ∧ n ≤ cap ∧ cap ≤ maxLen := by
  have hj : j < cs.length := by rw [h.1]; exact (List.getElem?_eq_some_iff.1 ht).1
  obtain ⟨m, y, h1, _⟩ := h.2 j t _ ht (List.getElem?_eq_getElem hj)
  rw [List.getElem?_eq_getElem hj]
  rcases DataW.trod_slice hu h1 with ⟨hcs, _⟩ | ⟨ad, len', cap', elems, rest, m', _, hcs, hx, hb, hl', hm, _⟩
  · simp only [List.cons.injEq, and_true] at hcs
    exact ⟨none, 0, 0, by rw [hcs], Nat.le_refl _, by simp [maxLen]⟩
  · simp only [List.cons.injEq, and_true] at hcs
    exact ⟨_, _, _, by rw [hcs], hl', hm⟩
theorem acts_open {H : Type} {enc : TypeId × Value → H} {r : Reach} {base : Nat} {W : World} {v : Value} {d : DataW H} {p : List MemPlace} (hv : Value.okWide Try.prog W r base 46 v) (h : DataW.Trod enc Try.prog W 0 (fun _ => true) true 46 v d p) (_ : ∀ n ∈ d.weights Try.prog 46, n ≤ reachBytes) :
    ∃ x : Option Addr × Nat × List Ac, v = .slice x.1 x.2.2.length x.2.1 ∧ StructsAt W x.1 12 (x.2.2.map fun a => a.cells.toList) ∧ (∀ a ∈ x.2.2, a.d.ok) ∧ x.2.2.length ≤ maxLen := by
  obtain ⟨a0, len, cap, rfl⟩ := okWide_slice Try.underlying46 hv
  obtain ⟨rows, hl, hf, hc, _, hlc, hcm, _⟩ := slice_rows (n := 6) (ts := [3, 3, 4, 32, 27, 27, 27, 27, 27, 27, 27, 27]) Try.underlying46 (by kernel_rfl) (by kernel_rfl) h
  obtain ⟨xs, rfl, hok⟩ := all_form (f := fun a : Ac => a.cells.toList) (Q := fun a => a.d.ok) rows (by
    intro i row hr
    obtain ⟨X, hX, _⟩ := hf i row hr
    obtain ⟨n0, e0, b0⟩ := hX.int (j := 0) rfl Try.underlying3
    obtain ⟨n1, e1, b1⟩ := hX.int (j := 1) rfl Try.underlying3
    obtain ⟨n2, e2⟩ := hX.bool (j := 2) rfl Try.underlying4
    obtain ⟨sa, sn, sc, es, s1, s2⟩ := hX.slice (j := 3) rfl Try.underlying32
    obtain ⟨n3, e3, b3⟩ := hX.int (j := 4) rfl Try.underlying27
    obtain ⟨n4, e4, b4⟩ := hX.int (j := 5) rfl Try.underlying27
    obtain ⟨n5, e5, b5⟩ := hX.int (j := 6) rfl Try.underlying27
    obtain ⟨n6, e6, b6⟩ := hX.int (j := 7) rfl Try.underlying27
    obtain ⟨n7, e7, b7⟩ := hX.int (j := 8) rfl Try.underlying27
    obtain ⟨n8, e8, b8⟩ := hX.int (j := 9) rfl Try.underlying27
    obtain ⟨n9, e9, b9⟩ := hX.int (j := 10) rfl Try.underlying27
    obtain ⟨n10, e10, b10⟩ := hX.int (j := 11) rfl Try.underlying27
    have c3 := bounds_u64 b3; have c4 := bounds_u64 b4; have c5 := bounds_u64 b5; have c6 := bounds_u64 b6
    have c7 := bounds_u64 b7; have c8 := bounds_u64 b8; have c9 := bounds_u64 b9; have c10 := bounds_u64 b10
    obtain ⟨k3, rfl⟩ : ∃ k : Nat, n3 = k := ⟨n3.toNat, by omega⟩
    obtain ⟨k4, rfl⟩ : ∃ k : Nat, n4 = k := ⟨n4.toNat, by omega⟩
    obtain ⟨k5, rfl⟩ : ∃ k : Nat, n5 = k := ⟨n5.toNat, by omega⟩
    obtain ⟨k6, rfl⟩ : ∃ k : Nat, n6 = k := ⟨n6.toNat, by omega⟩
    obtain ⟨k7, rfl⟩ : ∃ k : Nat, n7 = k := ⟨n7.toNat, by omega⟩
    obtain ⟨k8, rfl⟩ : ∃ k : Nat, n8 = k := ⟨n8.toNat, by omega⟩
    obtain ⟨k9, rfl⟩ : ∃ k : Nat, n9 = k := ⟨n9.toNat, by omega⟩
    obtain ⟨k10, rfl⟩ : ∃ k : Nat, n10 = k := ⟨n10.toNat, by omega⟩
    refine ⟨⟨n0, n1, ⟨n2, sa, sn, sc, ⟨k3, k4, k5, k6⟩, ⟨k7, k8, k9, k10⟩⟩⟩, ⟨?_, ⟨?_, ?_, ?_, ?_⟩, ⟨?_, ?_, ?_, ?_⟩⟩, ?_⟩
    · unfold maxLen at s2; simp only; omega
    any_goals (simp only; omega)
    have hl := hX.1
    match row, hl with
    | [x0, x1, x2, x3, x4, x5, x6, x7, x8, x9, x10, x11], _ => simp at e0 e1 e2 es e3 e4 e5 e6 e7 e8 e9 e10; rw [e0, e1, e2, es, e3, e4, e5, e6, e7, e8, e9, e10]; rfl)
  rw [List.length_map] at hl
  refine ⟨(a0, cap, xs), by rw [← hl], hc, hok, by simp only; omega⟩

/-- The act in its variable. -/
def ActC (b : Nat) (a : Ac) (V : World) : Prop := V.heap[b]? = some (.cells a.cells 50 (0, 0))
theorem ActC.cells {b : Nat} {a : Ac} {V : World} (h : ActC b a V) : V.cell? ⟨b, 0, none⟩ = some (.int .i64 a.w) ∧ V.cell? ⟨b, 1, none⟩ = some (.int .i64 a.r) ∧ V.cell? ⟨b, 2, none⟩ = some (.bool a.d.loc) ∧ V.cell? ⟨b, 3, none⟩ = some (.slice a.d.sa a.d.sn a.d.sc) ∧ V.cell? ⟨b, 4, none⟩ = some (.int .u64 a.d.los.a) ∧ V.cell? ⟨b, 5, none⟩ = some (.int .u64 a.d.los.b) ∧ V.cell? ⟨b, 6, none⟩ = some (.int .u64 a.d.los.c) ∧ V.cell? ⟨b, 7, none⟩ = some (.int .u64 a.d.los.d) ∧ V.cell? ⟨b, 8, none⟩ = some (.int .u64 a.d.exp.a) ∧ V.cell? ⟨b, 9, none⟩ = some (.int .u64 a.d.exp.b) ∧ V.cell? ⟨b, 10, none⟩ = some (.int .u64 a.d.exp.c) ∧ V.cell? ⟨b, 11, none⟩ = some (.int .u64 a.d.exp.d) :=
  ⟨cell_of_row _ _ 0 _ _ _ h, cell_of_row _ _ 1 _ _ _ h, cell_of_row _ _ 2 _ _ _ h, cell_of_row _ _ 3 _ _ _ h, cell_of_row _ _ 4 _ _ _ h, cell_of_row _ _ 5 _ _ _ h, cell_of_row _ _ 6 _ _ _ h, cell_of_row _ _ 7 _ _ _ h, cell_of_row _ _ 8 _ _ _ h, cell_of_row _ _ 9 _ _ _ h, cell_of_row _ _ 10 _ _ _ h, cell_of_row _ _ 11 _ _ _ h⟩
/-- What is there in a round: the act, the tally, the reference's list of the same counts. -/
structure PlS (W : World) (b : Nat) (a : Ac) (own : Value) (L : List Cn) (V : World) : Prop where
  act : ActC b a V
  tal : TAt V W.heap.size W.heap.size L
  row : CRow V (W.heap.size + 1) own L
  bel : Below W.heap.size W V
  hi : W.heap.size < b
theorem PlS.later {W V X : World} {b : Nat} {a : Ac} {own : Value} {L : List Cn} (h : PlS W b a own L V) (hb : Below V.heap.size V X) : PlS W b a own L X :=
  ⟨(hb.block b (Array.getElem?_eq_some_iff.1 h.act).1).trans h.act, h.tal.later hb, h.row.later hb, h.bel.trans (hb.mono h.bel.size), h.hi⟩
theorem PlS.drew {W V : World} {b : Nat} {a : Ac} {own : Value} {L : List Cn} (h : PlS W b a own L V) : PlS W b a own L V.drew := h.later ⟨rfl, rfl, rfl, Nat.le_refl _, fun _ _ => rfl⟩
/-- The tally has gone ahead, and the list follows. -/
structure PlM (W : World) (b : Nat) (a : Ac) (own : Value) (L M : List Cn) (V : World) : Prop where
  act : ActC b a V
  tal : TAt V W.heap.size W.heap.size M
  row : CRow V (W.heap.size + 1) own L
  bel : Below W.heap.size W V
  hi : W.heap.size < b
theorem PlM.later {W V X : World} {b : Nat} {a : Ac} {own : Value} {L M : List Cn} (h : PlM W b a own L M V) (hb : Below V.heap.size V X) : PlM W b a own L M X :=
  ⟨(hb.block b (Array.getElem?_eq_some_iff.1 h.act).1).trans h.act, h.tal.later hb, h.row.later hb, h.bel.trans (hb.mono h.bel.size), h.hi⟩
theorem PlM.drew {W V : World} {b : Nat} {a : Ac} {own : Value} {L M : List Cn} (h : PlM W b a own L M V) : PlM W b a own L M V.drew := h.later ⟨rfl, rfl, rfl, Nat.le_refl _, fun _ _ => rfl⟩
theorem PlS.step {W V X : World} {b : Nat} {a : Ac} {own : Value} {L M : List Cn} (h : PlS W b a own L V) (ht : TAt X W.heap.size W.heap.size M) (hg : V.grownBy X (some W.heap.size)) : PlM W b a own L M X :=
  ⟨(hg.block b (Array.getElem?_eq_some_iff.1 h.act).1 (by have := h.hi; simp; omega)).trans h.act, ht, h.row.kept hg (by
    cases ho : own.ownBlock with
    | none => exact .inl rfl
    | some q => exact .inr (fun e => by have := (h.row.1.lt q ho).1; simp only [Option.some.injEq] at e; omega)), h.tal.bel h.bel hg (Nat.le_refl _), h.hi⟩
theorem PlM.done {W V X : World} {b : Nat} {a : Ac} {own own' : Value} {L M : List Cn} (h : PlM W b a own L M V) (hb : Below V.heap.size V X) (hr : CRow X V.heap.size own' M) : PlS W b a own' M X :=
  ⟨(h.later hb).act, (h.later hb).tal, ⟨hr.1.more (by have := h.tal.lt; omega), hr.2⟩, (h.later hb).bel, h.hi⟩
def PlaysRel (W : World) (n : Nat) (own i : Value) (wr : World) : Prop :=
  ∃ (k : Nat) (L : List Cn), i = .int .i64 k ∧ k ≤ n ∧ k ≤ 60 ∧ TAt wr W.heap.size W.heap.size L ∧ CRow wr (W.heap.size + 1) own L ∧ Below W.heap.size W wr

theorem of_is (d : Dn) (c : Cn) (h : d.of = c) (W : World) (hd : d.ok) : Calls Try.prog 16 #[d.ag] W fun e W' => e = .returned (.agg #[.int .u64 c.got, .int .u64 c.loc, .int .u64 c.cop, .int .u64 c.los, .int .u64 c.exp, .int .u64 c.bad]) ∧ Below W.heap.size W W' := by
  have := of_any d W hd
  rw [h] at this
  exact this
theorem of15_is (d : Dn) (c : Cn) (h : d.of = c) (W : World) (hd : d.ok) : Calls Try.prog 17 #[d.ag] W fun e W' => e = .returned (.agg #[.int .u64 c.got, .int .u64 c.loc, .int .u64 c.cop, .int .u64 c.los, .int .u64 c.exp, .int .u64 c.bad]) ∧ Below W.heap.size W W' := by
  have := of15_any d W hd
  rw [h] at this
  exact this

/-- The same, with the counts that were asked for. -/
structure PlT (W : World) (b : Nat) (a : Ac) (own : Value) (L : List Cn) (q : Nat) (c : Cn) (V : World) : Prop where
  pls : PlS W b a own L V
  box : BoxC q c V
theorem PlT.later {W V X : World} {b : Nat} {a : Ac} {own : Value} {L : List Cn} {q : Nat} {c : Cn} (h : PlT W b a own L q c V) (hb : Below V.heap.size V X) : PlT W b a own L q c X := ⟨h.pls.later hb, BoxC.later h.box hb⟩
theorem bad_ok : (⟨1, 0, 0, 0, 0, 1⟩ : Cn).ok := by unfold Cn.ok U64; simp
theorem all_is (t : Nat) (B : Nat) (L : List Cn) (c : Cn) (hc : sumC L = c) (W : World) (H : TAt W B t L) :
    Calls Try.prog 14 #[.pointer (some ⟨t, 0, none⟩)] W fun e W' => e = .returned (.agg #[.int .u64 c.got, .int .u64 c.loc, .int .u64 c.cop, .int .u64 c.los, .int .u64 c.exp, .int .u64 c.bad]) ∧ Below W.heap.size W W' := by
  have := all_any t B L W H
  rw [hc] at this
  exact this
theorem all15_is (v : Value) (B : Nat) (L : List Cn) (c : Cn) (hc : sumC L = c) (W : World) (H : CRow W B v L) :
    Calls Try.prog 22 #[v] W fun e W' => e = .returned (.agg #[.int .u64 c.got, .int .u64 c.loc, .int .u64 c.cop, .int .u64 c.los, .int .u64 c.exp, .int .u64 c.bad]) ∧ Below W.heap.size W W' := by
  have := all15_any v B L W H
  rw [hc] at this
  exact this

set_option maxRecDepth 100000 in
set_option maxHeartbeats 8000000 in
theorem tallyPlays_walk (x : Option Addr × Nat × List Ac) (W : World) (hx : StructsAt W x.1 12 (x.2.2.map fun a => a.cells.toList) ∧ (∀ a ∈ x.2.2, a.d.ok) ∧ x.2.2.length ≤ maxLen) :
    Calls Try.prog 5 #[.slice x.1 x.2.2.length x.2.1] W fun e W' => e = .returned (.bool true) ∧ Below W.heap.size W W' := by
  obtain ⟨a, cap, l⟩ := x
  obtain ⟨hx, hok, hlen⟩ := hx
  simp only at hx hok hlen ⊢
  obtain ⟨N, hN⟩ : ∃ N, N = l.length := ⟨_, rfl⟩
  rw [← hN] at hlen ⊢
  unfold maxLen at hlen
  have HN := Lib.hid hN
  have HX := Lib.hid hx
  have HOK := Lib.hid hok
  have HW := Lib.hid (works_any)
  obtain ⟨W1, hW1⟩ : ∃ W1, W1 = W.alloc (.cells (tlC tl0).toArray 61) := ⟨_, rfl⟩
  have HT1 := Lib.hid (show TAt W1 W.heap.size W.heap.size tl0 by rw [hW1]; exact new_at W (Nat.le_refl _))
  have HB1 := Lib.hid (show Below W.heap.size W W1 by rw [hW1]; exact (Below.refl _ _).alloc (Nat.le_refl _) _)
  have HW1 := Lib.hid hW1
  clear hx hN hok hW1
  go_enter Try.func5, Try.ntmps5
  go_wp2_with fail
  refine (new_any W).mono ?_
  rintro e w1 ⟨rfl, rfl⟩
  rw [← HW1.out]
  go_wp2_with fail
  refine (new15_any W1).mono ?_
  rintro e W2 ⟨own0, rfl, hr0, hb2⟩
  have HR0 := Lib.hid (show PlaysRel W N own0 (.int .i64 0) W2 from ⟨0, tl0, rfl, by omega, by omega, HT1.out.later hb2, ⟨hr0.1.more (by have := HT1.out.lt; omega), hr0.2⟩, HB1.out.trans (hb2.mono HB1.out.size)⟩)
  clear hr0 hb2
  go_wp2_with fail
  go_loopw [4, 5] (fun own i wr => PlaysRel W N own i wr) (fun _ i _ => 60 - (intOf i).toNat)
  case atStart => exact HR0.out
  case round =>
    obtain ⟨k, L, rfl, hk, hk6, ht, hr, hb⟩ := hrel
    by_cases hgo : k < N ∧ k < 60
    · obtain ⟨hkN, hk60⟩ := hgo
      have hkl : k < l.length := by rw [← HN.out]; exact hkN
      obtain ⟨m, hm⟩ : ∃ m, l[k]? = some m := ⟨_, List.getElem?_eq_getElem hkl⟩
      have HM := Lib.hid (HOK.out m (List.mem_of_getElem? hm))
      obtain ⟨ad, ha, hc⟩ := HX.out.row (i := k) (row := m.cells.toList) (by rw [List.getElem?_map, hm]; rfl) (by simp [Ac.cells])
      subst ha
      have HC := Lib.hid (hc wr hb)
      have hk60' : decide ((k : Int) < 60) = true := decide_eq_true (by omega)
      have hkN2 : (k : Int) < N := by omega
      obtain ⟨X, hX⟩ : ∃ X, X = wr.alloc (.cells m.cells 50) := ⟨_, rfl⟩
      have hbx : Below wr.heap.size wr X := by rw [hX]; exact (Below.refl _ _).alloc (Nat.le_refl _) _
      have hpl : PlS W wr.heap.size m u4 L X := ⟨by rw [hX]; exact heap_alloc_new _ _, ht.later hbx, hr.later hbx, hb.trans (hbx.mono hb.size), ht.lt⟩
      obtain ⟨b6, hb6⟩ : ∃ b6, b6 = wr.heap.size := ⟨_, rfl⟩
      have HB6 := Lib.hid hb6
      obtain ⟨w, r0, d⟩ := m
      obtain ⟨M0, hM0⟩ : ∃ M0 : Ac, M0 = ⟨w, r0, d⟩ := ⟨_, rfl⟩
      rw [← hM0] at HC hX hpl
      rw [← hb6] at hpl
      have HAC := Lib.hid (show ∀ V, ActC b6 M0 V → V.cell? ⟨b6, 0, none⟩ = some (.int .i64 w) ∧ V.cell? ⟨b6, 1, none⟩ = some (.int .i64 r0) ∧ V.cell? ⟨b6, 2, none⟩ = some (.bool d.loc) ∧ V.cell? ⟨b6, 3, none⟩ = some (.slice d.sa d.sn d.sc) ∧ V.cell? ⟨b6, 4, none⟩ = some (.int .u64 (d.los.a : Nat)) ∧ V.cell? ⟨b6, 5, none⟩ = some (.int .u64 (d.los.b : Nat)) ∧ V.cell? ⟨b6, 6, none⟩ = some (.int .u64 (d.los.c : Nat)) ∧ V.cell? ⟨b6, 7, none⟩ = some (.int .u64 (d.los.d : Nat)) ∧ V.cell? ⟨b6, 8, none⟩ = some (.int .u64 (d.exp.a : Nat)) ∧ V.cell? ⟨b6, 9, none⟩ = some (.int .u64 (d.exp.b : Nat)) ∧ V.cell? ⟨b6, 10, none⟩ = some (.int .u64 (d.exp.c : Nat)) ∧ V.cell? ⟨b6, 11, none⟩ = some (.int .u64 (d.exp.d : Nat)) from fun V h => by rw [hM0] at h; exact ActC.cells h)
      have HMC := Lib.hid (show M0.cells = #[.int .i64 w, .int .i64 r0, .bool d.loc, .slice d.sa d.sn d.sc, .int .u64 d.los.a, .int .u64 d.los.b, .int .u64 d.los.c, .int .u64 d.los.d, .int .u64 d.exp.a, .int .u64 d.exp.b, .int .u64 d.exp.c, .int .u64 d.exp.d] by rw [hM0]; rfl)
      have HSZ := Lib.hid (show (Try.prog.info? 50).map (·.size) = some M0.cells.toList.length by rw [HMC.out]; kernel_rfl)
      rw [HMC.out] at hX
      have HX := Lib.hid hX
      have HP := Lib.hid hpl
      have HLOC := Lib.hid hM0
      clear hpl hX hM0 hm hkl hc hbx ht hr hb hb6
      have hway : (w = 0 ∨ w = 1 ∨ (w ≠ 0 ∧ w ≠ 1)) ∧ ((1 ≤ r0 ∧ r0 ≤ 24) ∨ (r0 < 1 ∨ 24 < r0)) := by omega
      obtain ⟨hw, hrr⟩ := hway
      rcases hw with hw | hw | ⟨hw0, hw1⟩
      · subst hw
        rcases hrr with hrr | hrr
        · obtain ⟨r, rfl⟩ : ∃ r : Nat, r0 = (r : Int) := ⟨r0.toNat, by omega⟩
          have h1 : 1 ≤ r := by omega
          have h2 : r ≤ 24 := by omega
          have hr25 : (r : Int) < 25 := by omega
          clear hrr
          go_wp2_with ((with_reducible refine wpList_load_cs rfl 50 (.tmp 30) rfl _ rfl (Ac.cells M0).toList _ HC.out Try.underlying50 rfl HSZ.out ?_); rw [Array.toArray_toList, HMC.out])
          rw [← HX.out, ← HB6.out]
          obtain ⟨c, hc⟩ : ∃ c, d.of = c := ⟨_, rfl⟩
          have HCC := Lib.hid hc
          have hcok : c.ok := hc ▸ Dn.of_ok HM.out
          clear hc
          refine wp_region_ord [(0, true), (1, true), (3, true), (4, true), (2, false), (5, false), (6, true)] (PlS W b6 M0 u4 L) (by kernel_rfl) (by kernel_rfl) (by decide) (by kernel_rfl) (fun d _ _ _ _ h => by cases d <;> exact h) (PlS.drew HP.out) ?_
          iterate 4 ((apply wpOrd_take rfl rfl (by kernel_rfl); (intro V hV; obtain ⟨x0, x1, x2, x3, x4, x5, x6, x7, x8, x9, x10, x11⟩ := HAC.out _ hV.act; go_simp; rfl)); (try simp only [List.setIfInBounds_toArray, List.set_cons_succ, List.set_cons_zero]))
          apply wpOrd_do rfl (by kernel_rfl)
          intro K hK
          go_simp
          refine (of_is d c HCC.out _ HM.out).mono ?_
          rintro e V1 ⟨rfl, hb⟩
          have HP1 := Lib.hid (PlS.later (PlS.drew HP.out) hb)
          refine hK _ _ HP1.out ?_
          clear hb
          clear hK K
          apply wpOrd_do rfl (by kernel_rfl)
          intro K hK
          go_simp
          refine (of15_is d c HCC.out _ HM.out).mono ?_
          rintro e V2 ⟨rfl, hb⟩
          have HP2 := Lib.hid (PlS.later HP1.out hb)
          refine hK _ _ HP2.out ?_
          clear hb
          clear hK K
          iterate 1 ((apply wpOrd_take rfl rfl (by kernel_rfl); (intro V hV; skip; go_simp; rfl)); (try simp only [List.setIfInBounds_toArray, List.set_cons_succ, List.set_cons_zero]))
          refine wpOrd_nil ?_
          obtain ⟨x0, x1, x2, x3, x4, x5, x6, x7, x8, x9, x10, x11⟩ := HAC.out _ HP2.out.act
          go_wp2_with fail
          refine (note_any _ r _ _ d V2 HP2.out.tal HM.out h1 h2).mono ?_
          rintro e V3 ⟨rfl, ht3, hg3⟩
          rw [HCC.out] at ht3
          have HQ := Lib.hid (PlS.step HP2.out ht3 hg3)
          clear ht3 hg3 x0 x1 x2 x3 x4 x5 x6 x7 x8 x9 x10 x11
          go_wp2_with fail
          refine wp_region_ord [(0, true), (1, true), (2, true), (3, true), (4, true), (5, false), (6, false), (7, true), (8, true), (9, true), (10, true), (11, true)] (PlM W b6 M0 u4 L (L.set r ((L.getD r default).add c))) (by kernel_rfl) (by kernel_rfl) (by decide) (by kernel_rfl) (fun d _ _ _ _ h => by cases d <;> exact h) (PlM.drew HQ.out) ?_
          iterate 5 ((apply wpOrd_take rfl rfl (by kernel_rfl); (intro V hV; obtain ⟨x0, x1, x2, x3, x4, x5, x6, x7, x8, x9, x10, x11⟩ := HAC.out _ hV.act; go_simp; rfl)); (try simp only [List.setIfInBounds_toArray, List.set_cons_succ, List.set_cons_zero]))
          apply wpOrd_do rfl (by kernel_rfl)
          intro K hK
          go_simp
          refine (of15_is d c HCC.out _ HM.out).mono ?_
          rintro e V4 ⟨rfl, hb⟩
          have HQ4 := Lib.hid (PlM.later (PlM.drew HQ.out) hb)
          refine hK _ _ HQ4.out ?_
          clear hb
          clear hK K
          apply wpOrd_do rfl (by kernel_rfl)
          intro K hK
          go_simp
          refine (add15_any u4 r _ L c V4 HQ4.out.row hcok h1 h2).mono ?_
          rintro e V5 ⟨v', rfl, hr5, hb⟩
          have HP5 := Lib.hid (PlM.done HQ4.out hb hr5)
          have HQ5 := Lib.hid (PlM.later HQ4.out hb)
          refine hK _ _ HQ5.out ?_
          clear hb hr5
          clear hK K
          iterate 5 ((apply wpOrd_take rfl rfl (by kernel_rfl); (intro V hV; skip; go_simp; rfl)); (try simp only [List.setIfInBounds_toArray, List.set_cons_succ, List.set_cons_zero]))
          refine wpOrd_nil ?_
          obtain ⟨L5, hL5⟩ : ∃ L5, L5 = L.set r ((L.getD r default).add c) := ⟨_, rfl⟩
          have hp5 := HP5.out
          rw [← hL5] at hp5
          obtain ⟨g, cap', hv', _, _, _, _, _, _⟩ := hp5.row.1.form (by omega)
          subst hv'
          obtain ⟨cc, hcc⟩ : ∃ cc, L5.getD r default = cc := ⟨_, rfl⟩
          obtain ⟨sm, hsm⟩ : ∃ sm, sumC L5 = sm := ⟨_, rfl⟩
          have HCG := Lib.hid hcc
          have HSM := Lib.hid hsm
          have HP6 := Lib.hid hp5
          clear hp5 hcc hsm hL5 HP5
          obtain ⟨x0, x1, x2, x3, x4, x5, x6, x7, x8, x9, x10, x11⟩ := HAC.out _ HP6.out.act
          go_wp2_with fail
          refine (At_is _ r _ _ cc HCG.out V5 HP6.out.tal h1 h2).mono ?_
          rintro e V6 ⟨rfl, hb⟩
          obtain ⟨Y, hY⟩ : ∃ Y, Y = V6.alloc (.cells #[.int .u64 cc.got, .int .u64 cc.loc, .int .u64 cc.cop, .int .u64 cc.los, .int .u64 cc.exp, .int .u64 cc.bad] 37) := ⟨_, rfl⟩
          have hby : Below V5.heap.size V5 Y := by rw [hY]; exact hb.alloc hb.size _
          have HP7 := Lib.hid (show PlT W b6 M0 (.slice (some ⟨g, 0, none⟩) 25 cap') L5 V6.heap.size cc Y.drew from ⟨PlS.drew (PlS.later HP6.out hby), by rw [hY]; exact heap_alloc_new _ _⟩)
          have HY := Lib.hid hY
          clear hb hY hby x0 x1 x2 x3 x4 x5 x6 x7 x8 x9 x10 x11
          go_wp2_with fail
          rw [← HY.out]
          refine wp_region_ord [(0, true), (1, true), (2, true), (3, true), (4, true), (5, true), (6, true), (7, true), (8, true), (9, true), (10, true), (11, false), (12, true), (13, true), (14, true), (15, true), (16, true), (17, true), (18, true), (19, true), (20, true), (21, true), (22, true), (23, true), (24, true), (25, false), (26, true), (27, true), (28, true), (29, true), (30, true), (31, true), (32, true), (33, true), (34, true), (36, true), (35, false), (37, false), (38, true), (39, true)] (PlT W b6 M0 (.slice (some ⟨g, 0, none⟩) 25 cap') L5 V6.heap.size cc) (by kernel_rfl) (by kernel_rfl) (by decide) (by kernel_rfl) (fun d _ _ _ _ h => by cases d <;> exact h) HP7.out ?_
          iterate 11 ((apply wpOrd_take rfl rfl (by kernel_rfl); (intro V hV; have x1 : V.cell? ⟨b6, 1, none⟩ = some (.int .i64 (r : Int)) := (HAC.out _ hV.pls.act).2.1; go_simp; rfl)); (try simp only [List.setIfInBounds_toArray, List.set_cons_succ, List.set_cons_zero]))
          apply wpOrd_do rfl (by kernel_rfl)
          intro K hK
          go_simp
          refine (router_yes r _ h1 h2).mono ?_
          rintro e V7 ⟨rfl, rfl⟩
          refine hK _ _ HP7.out ?_
          clear hK K
          iterate 1 ((apply wpOrd_take rfl rfl (by kernel_rfl); (intro V hV; skip; go_simp; rfl)); (try simp only [List.setIfInBounds_toArray, List.set_cons_succ, List.set_cons_zero]))
          iterate 1 ((apply wpOrd_take rfl rfl (by kernel_rfl); (intro V hV; obtain ⟨z0, z1, z2, z3, z4, z5⟩ := BoxC.cells hV.box; (try simp only [Cn.zero] at z0 z1 z2 z3 z4 z5); go_simp; rfl)); (try simp only [List.setIfInBounds_toArray, List.set_cons_succ, List.set_cons_zero]))
          iterate 4 ((apply wpOrd_take rfl rfl (by kernel_rfl); (intro V hV; have x1 : V.cell? ⟨b6, 1, none⟩ = some (.int .i64 (r : Int)) := (HAC.out _ hV.pls.act).2.1; go_simp; rfl)); (try simp only [List.setIfInBounds_toArray, List.set_cons_succ, List.set_cons_zero]))
          iterate 1 ((apply wpOrd_take rfl rfl (by kernel_rfl); (intro V hV; obtain ⟨⟨y0, y1, y2, y3, y4, y5⟩, _⟩ := CRow.six (r := r) hV.pls.row (by omega); rw [HCG.out] at y0 y1 y2 y3 y4 y5; go_simp; rfl)); (try simp only [List.setIfInBounds_toArray, List.set_cons_succ, List.set_cons_zero]))
          iterate 4 ((apply wpOrd_take rfl rfl (by kernel_rfl); (intro V hV; skip; go_simp; rfl)); (try simp only [List.setIfInBounds_toArray, List.set_cons_succ, List.set_cons_zero]))
          iterate 2 ((apply wpOrd_take rfl rfl (by kernel_rfl); (intro V hV; have x1 : V.cell? ⟨b6, 1, none⟩ = some (.int .i64 (r : Int)) := (HAC.out _ hV.pls.act).2.1; go_simp; rfl)); (try simp only [List.setIfInBounds_toArray, List.set_cons_succ, List.set_cons_zero]))
          apply wpOrd_do rfl (by kernel_rfl)
          intro K hK
          go_simp
          refine (router_yes r _ h1 h2).mono ?_
          rintro e V8 ⟨rfl, rfl⟩
          refine hK _ _ HP7.out ?_
          clear hK K
          iterate 2 ((apply wpOrd_take rfl rfl (by kernel_rfl); (intro V hV; skip; go_simp; rfl)); (try simp only [List.setIfInBounds_toArray, List.set_cons_succ, List.set_cons_zero]))
          iterate 3 ((apply wpOrd_skip rfl rfl (by kernel_rfl)); (try simp only [List.setIfInBounds_toArray, List.set_cons_succ, List.set_cons_zero]))
          iterate 5 ((apply wpOrd_take rfl rfl (by kernel_rfl); (intro V hV; skip; go_simp; rfl)); (try simp only [List.setIfInBounds_toArray, List.set_cons_succ, List.set_cons_zero]))
          apply wpOrd_do rfl (by kernel_rfl)
          intro K hK
          go_simp
          refine (all_is _ _ _ sm HSM.out _ HP7.out.pls.tal).mono ?_
          rintro e V9 ⟨rfl, hb⟩
          have HP9 := Lib.hid (PlT.later HP7.out hb)
          refine hK _ _ HP9.out ?_
          clear hb
          clear hK K
          apply wpOrd_do rfl (by kernel_rfl)
          intro K hK
          go_simp
          refine (all15_is _ _ _ sm HSM.out _ HP9.out.pls.row).mono ?_
          rintro e V10 ⟨rfl, hb⟩
          have HP10 := Lib.hid (PlT.later HP9.out hb)
          refine hK _ _ HP10.out ?_
          clear hb
          clear hK K
          iterate 2 ((apply wpOrd_take rfl rfl (by kernel_rfl); (intro V hV; skip; go_simp; rfl)); (try simp only [List.setIfInBounds_toArray, List.set_cons_succ, List.set_cons_zero]))
          refine wpOrd_nil ?_
          have HR := Lib.hid (show PlaysRel W N (.slice (some ⟨g, 0, none⟩) 25 cap') (.int .i64 ((k : Int) + 1)) V10 from ⟨k + 1, L5, by go_num, by omega, by omega, HP10.out.pls.tal, HP10.out.pls.row, HP10.out.pls.bel⟩)
          go_wp2_with fail
          go_roundw
          case rel => first | exact HR.out | ((repeat apply Exists.intro); exact ⟨HR.out, rfl⟩)
          case measure => simp [intOf]; omega
        · obtain ⟨ri, hri⟩ : ∃ ri, ri = r0 := ⟨_, rfl⟩
          rw [← hri] at hrr HLOC HMC HX HAC
          clear hri
          have HRI := Lib.hid hrr
          clear hrr
          go_wp2_with ((with_reducible refine wpList_load_cs rfl 50 (.tmp 30) rfl _ rfl (Ac.cells M0).toList _ HC.out Try.underlying50 rfl HSZ.out ?_); rw [Array.toArray_toList, HMC.out])
          rw [← HX.out, ← HB6.out]
          obtain ⟨c, hc⟩ : ∃ c, d.of = c := ⟨_, rfl⟩
          have HCC := Lib.hid hc
          have hcok : c.ok := hc ▸ Dn.of_ok HM.out
          clear hc
          refine wp_region_ord [(0, true), (1, true), (3, true), (4, true), (2, false), (5, false), (6, true)] (PlS W b6 M0 u4 L) (by kernel_rfl) (by kernel_rfl) (by decide) (by kernel_rfl) (fun d _ _ _ _ h => by cases d <;> exact h) (PlS.drew HP.out) ?_
          iterate 4 ((apply wpOrd_take rfl rfl (by kernel_rfl); (intro V hV; obtain ⟨x0, x1, x2, x3, x4, x5, x6, x7, x8, x9, x10, x11⟩ := HAC.out _ hV.act; go_simp; rfl)); (try simp only [List.setIfInBounds_toArray, List.set_cons_succ, List.set_cons_zero]))
          apply wpOrd_do rfl (by kernel_rfl)
          intro K hK
          go_simp
          refine (of_is d c HCC.out _ HM.out).mono ?_
          rintro e V1 ⟨rfl, hb⟩
          have HP1 := Lib.hid (PlS.later (PlS.drew HP.out) hb)
          refine hK _ _ HP1.out ?_
          clear hb
          clear hK K
          apply wpOrd_do rfl (by kernel_rfl)
          intro K hK
          go_simp
          refine (of15_is d c HCC.out _ HM.out).mono ?_
          rintro e V2 ⟨rfl, hb⟩
          have HP2 := Lib.hid (PlS.later HP1.out hb)
          refine hK _ _ HP2.out ?_
          clear hb
          clear hK K
          iterate 1 ((apply wpOrd_take rfl rfl (by kernel_rfl); (intro V hV; skip; go_simp; rfl)); (try simp only [List.setIfInBounds_toArray, List.set_cons_succ, List.set_cons_zero]))
          refine wpOrd_nil ?_
          obtain ⟨x0, x1, x2, x3, x4, x5, x6, x7, x8, x9, x10, x11⟩ := HAC.out _ HP2.out.act
          go_wp2_with fail
          refine (note_err _ ri 2 d V2 (.inr rfl) (fun V hV => at_arg _ ri V (HP2.out.tal.later hV).c0 HRI.out)).mono ?_
          rintro e V3 ⟨rfl, hb3⟩
          have HP3 := Lib.hid (PlS.later HP2.out hb3)
          clear hb3 x0 x1 x2 x3 x4 x5 x6 x7 x8 x9 x10 x11
          go_wp2_with fail
          refine wp_region_ord [(0, true), (1, true), (2, true), (3, true), (4, true), (5, false), (6, false), (7, true), (8, true), (9, true), (10, true), (11, true)] (PlS W b6 M0 u4 L) (by kernel_rfl) (by kernel_rfl) (by decide) (by kernel_rfl) (fun d _ _ _ _ h => by cases d <;> exact h) (PlS.drew HP3.out) ?_
          iterate 5 ((apply wpOrd_take rfl rfl (by kernel_rfl); (intro V hV; obtain ⟨x0, x1, x2, x3, x4, x5, x6, x7, x8, x9, x10, x11⟩ := HAC.out _ hV.act; go_simp; rfl)); (try simp only [List.setIfInBounds_toArray, List.set_cons_succ, List.set_cons_zero]))
          apply wpOrd_do rfl (by kernel_rfl)
          intro K hK
          go_simp
          refine (of15_is d c HCC.out _ HM.out).mono ?_
          rintro e V4 ⟨rfl, hb⟩
          have HP4 := Lib.hid (PlS.later (PlS.drew HP3.out) hb)
          refine hK _ _ HP4.out ?_
          clear hb
          clear hK K
          apply wpOrd_do rfl (by kernel_rfl)
          intro K hK
          go_simp
          refine (add15_no u4 ri c V4 HRI.out).mono ?_
          rintro e V5 ⟨rfl, hb⟩
          have HP5 := Lib.hid (PlS.later HP4.out hb)
          refine hK _ _ HP5.out ?_
          clear hb
          clear hK K
          iterate 5 ((apply wpOrd_take rfl rfl (by kernel_rfl); (intro V hV; skip; go_simp; rfl)); (try simp only [List.setIfInBounds_toArray, List.set_cons_succ, List.set_cons_zero]))
          refine wpOrd_nil ?_
          obtain ⟨sm, hsm⟩ : ∃ sm, sumC L = sm := ⟨_, rfl⟩
          have HSM := Lib.hid hsm
          have HP6 := Lib.hid HP5.out
          clear hsm
          obtain ⟨x0, x1, x2, x3, x4, x5, x6, x7, x8, x9, x10, x11⟩ := HAC.out _ HP6.out.act
          go_wp2_with fail
          refine (At_err _ ri 2 V5 (.inr rfl) (fun V hV => at_arg _ ri V (HP6.out.tal.later hV).c0 HRI.out)).mono ?_
          rintro e V6 ⟨rfl, hb⟩
          obtain ⟨cc, hcc⟩ : ∃ cc, cc = Cn.zero := ⟨_, rfl⟩
          obtain ⟨Y, hY⟩ : ∃ Y, Y = V6.alloc (.cells #[.int .u64 0, .int .u64 0, .int .u64 0, .int .u64 0, .int .u64 0, .int .u64 0] 37) := ⟨_, rfl⟩
          have hby : Below V5.heap.size V5 Y := by rw [hY]; exact hb.alloc hb.size _
          have HP7 := Lib.hid (show PlT W b6 M0 u4 L V6.heap.size Cn.zero Y.drew from ⟨PlS.drew (PlS.later HP6.out hby), by rw [hY]; exact heap_alloc_new _ _⟩)
          have HY := Lib.hid hY
          clear hb hY hby x0 x1 x2 x3 x4 x5 x6 x7 x8 x9 x10 x11
          go_wp2_with fail
          rw [← HY.out]
          refine wp_region_ord [(0, true), (1, true), (2, true), (3, true), (4, true), (5, true), (6, true), (7, true), (8, true), (9, true), (10, true), (11, false), (12, true), (13, true), (14, true), (15, true), (16, true), (17, true), (18, true), (19, true), (20, true), (21, true), (22, true), (23, true), (24, true), (25, false), (26, true), (27, true), (28, true), (29, true), (30, true), (31, true), (32, true), (33, true), (34, true), (36, true), (35, false), (37, false), (38, true), (39, true)] (PlT W b6 M0 u4 L V6.heap.size Cn.zero) (by kernel_rfl) (by kernel_rfl) (by decide) (by kernel_rfl) (fun d _ _ _ _ h => by cases d <;> exact h) HP7.out ?_
          iterate 11 ((apply wpOrd_take rfl rfl (by kernel_rfl); (intro V hV; have x1 : V.cell? ⟨b6, 1, none⟩ = some (.int .i64 ri) := (HAC.out _ hV.pls.act).2.1; go_simp; rfl)); (try simp only [List.setIfInBounds_toArray, List.set_cons_succ, List.set_cons_zero]))
          apply wpOrd_do rfl (by kernel_rfl)
          intro K hK
          go_simp
          refine (router_no ri _ HRI.out).mono ?_
          rintro e V7 ⟨rfl, rfl⟩
          refine hK _ _ HP7.out ?_
          clear hK K
          iterate 1 ((apply wpOrd_take rfl rfl (by kernel_rfl); (intro V hV; skip; go_simp; rfl)); (try simp only [List.setIfInBounds_toArray, List.set_cons_succ, List.set_cons_zero]))
          iterate 7 ((apply wpOrd_skip rfl rfl (by kernel_rfl)); (try simp only [List.setIfInBounds_toArray, List.set_cons_succ, List.set_cons_zero]))
          iterate 3 ((apply wpOrd_take rfl rfl (by kernel_rfl); (intro V hV; skip; go_simp; rfl)); (try simp only [List.setIfInBounds_toArray, List.set_cons_succ, List.set_cons_zero]))
          iterate 2 ((apply wpOrd_take rfl rfl (by kernel_rfl); (intro V hV; have x1 : V.cell? ⟨b6, 1, none⟩ = some (.int .i64 ri) := (HAC.out _ hV.pls.act).2.1; go_simp; rfl)); (try simp only [List.setIfInBounds_toArray, List.set_cons_succ, List.set_cons_zero]))
          apply wpOrd_do rfl (by kernel_rfl)
          intro K hK
          go_simp
          refine (router_no ri _ HRI.out).mono ?_
          rintro e V8 ⟨rfl, rfl⟩
          refine hK _ _ HP7.out ?_
          clear hK K
          iterate 2 ((apply wpOrd_take rfl rfl (by kernel_rfl); (intro V hV; skip; go_simp; rfl)); (try simp only [List.setIfInBounds_toArray, List.set_cons_succ, List.set_cons_zero]))
          iterate 1 ((apply wpOrd_take rfl rfl (by kernel_rfl); (intro V hV; obtain ⟨z0, z1, z2, z3, z4, z5⟩ := BoxC.cells hV.box; (try simp only [Cn.zero] at z0 z1 z2 z3 z4 z5); go_simp; rfl)); (try simp only [List.setIfInBounds_toArray, List.set_cons_succ, List.set_cons_zero]))
          iterate 2 ((apply wpOrd_take rfl rfl (by kernel_rfl); (intro V hV; skip; go_simp; rfl)); (try simp only [List.setIfInBounds_toArray, List.set_cons_succ, List.set_cons_zero]))
          iterate 5 ((apply wpOrd_take rfl rfl (by kernel_rfl); (intro V hV; skip; go_simp; rfl)); (try simp only [List.setIfInBounds_toArray, List.set_cons_succ, List.set_cons_zero]))
          apply wpOrd_do rfl (by kernel_rfl)
          intro K hK
          go_simp
          refine (all_is _ _ _ sm HSM.out _ HP7.out.pls.tal).mono ?_
          rintro e V9 ⟨rfl, hb⟩
          have HP9 := Lib.hid (PlT.later HP7.out hb)
          refine hK _ _ HP9.out ?_
          clear hb
          clear hK K
          apply wpOrd_do rfl (by kernel_rfl)
          intro K hK
          go_simp
          refine (all15_is _ _ _ sm HSM.out _ HP9.out.pls.row).mono ?_
          rintro e V10 ⟨rfl, hb⟩
          have HP10 := Lib.hid (PlT.later HP9.out hb)
          refine hK _ _ HP10.out ?_
          clear hb
          clear hK K
          iterate 2 ((apply wpOrd_take rfl rfl (by kernel_rfl); (intro V hV; skip; go_simp; rfl)); (try simp only [List.setIfInBounds_toArray, List.set_cons_succ, List.set_cons_zero]))
          refine wpOrd_nil ?_
          have HR := Lib.hid (show PlaysRel W N u4 (.int .i64 ((k : Int) + 1)) V10 from ⟨k + 1, L, by go_num, by omega, by omega, HP10.out.pls.tal, HP10.out.pls.row, HP10.out.pls.bel⟩)
          go_wp2_with fail
          go_roundw
          case rel => first | exact HR.out | ((repeat apply Exists.intro); exact ⟨HR.out, rfl⟩)
          case measure => simp [intOf]; omega
      · subst hw
        rcases hrr with hrr | hrr
        · obtain ⟨r, rfl⟩ : ∃ r : Nat, r0 = (r : Int) := ⟨r0.toNat, by omega⟩
          have h1 : 1 ≤ r := by omega
          have h2 : r ≤ 24 := by omega
          have hr25 : (r : Int) < 25 := by omega
          clear hrr
          go_wp2_with ((with_reducible refine wpList_load_cs rfl 50 (.tmp 30) rfl _ rfl (Ac.cells M0).toList _ HC.out Try.underlying50 rfl HSZ.out ?_); rw [Array.toArray_toList, HMC.out])
          rw [← HX.out, ← HB6.out]
          refine (bad_any _ r _ _ X HP.out.tal h1 h2).mono ?_
          rintro e V3 ⟨rfl, ht3, hg3⟩
          have HQ := Lib.hid (PlS.step HP.out ht3 hg3)
          clear ht3 hg3
          obtain ⟨x0, x1, x2, x3, x4, x5, x6, x7, x8, x9, x10, x11⟩ := HAC.out _ HQ.out.act
          go_wp2_with fail
          refine (add15_any u4 r _ L ⟨1, 0, 0, 0, 0, 1⟩ V3 HQ.out.row bad_ok h1 h2).mono ?_
          rintro e V5 ⟨v', rfl, hr5, hb⟩
          have HP5 := Lib.hid (PlM.done HQ.out hb hr5)
          clear hb hr5 x0 x1 x2 x3 x4 x5 x6 x7 x8 x9 x10 x11
          obtain ⟨L5, hL5⟩ : ∃ L5, L5 = L.set r ((L.getD r default).add ⟨1, 0, 0, 0, 0, 1⟩) := ⟨_, rfl⟩
          have hp5 := HP5.out
          rw [← hL5] at hp5
          obtain ⟨g, cap', hv', _, _, _, _, _, _⟩ := hp5.row.1.form (by omega)
          subst hv'
          obtain ⟨cc, hcc⟩ : ∃ cc, L5.getD r default = cc := ⟨_, rfl⟩
          obtain ⟨sm, hsm⟩ : ∃ sm, sumC L5 = sm := ⟨_, rfl⟩
          have HCG := Lib.hid hcc
          have HSM := Lib.hid hsm
          have HP6 := Lib.hid hp5
          clear hp5 hcc hsm hL5 HP5
          obtain ⟨x0, x1, x2, x3, x4, x5, x6, x7, x8, x9, x10, x11⟩ := HAC.out _ HP6.out.act
          go_wp2_with fail
          refine (At_is _ r _ _ cc HCG.out V5 HP6.out.tal h1 h2).mono ?_
          rintro e V6 ⟨rfl, hb⟩
          obtain ⟨Y, hY⟩ : ∃ Y, Y = V6.alloc (.cells #[.int .u64 cc.got, .int .u64 cc.loc, .int .u64 cc.cop, .int .u64 cc.los, .int .u64 cc.exp, .int .u64 cc.bad] 37) := ⟨_, rfl⟩
          have hby : Below V5.heap.size V5 Y := by rw [hY]; exact hb.alloc hb.size _
          have HP7 := Lib.hid (show PlT W b6 M0 (.slice (some ⟨g, 0, none⟩) 25 cap') L5 V6.heap.size cc Y.drew from ⟨PlS.drew (PlS.later HP6.out hby), by rw [hY]; exact heap_alloc_new _ _⟩)
          have HY := Lib.hid hY
          clear hb hY hby x0 x1 x2 x3 x4 x5 x6 x7 x8 x9 x10 x11
          go_wp2_with fail
          rw [← HY.out]
          refine wp_region_ord [(0, true), (1, true), (2, true), (3, true), (4, true), (5, true), (6, true), (7, true), (8, true), (9, true), (10, true), (11, false), (12, true), (13, true), (14, true), (15, true), (16, true), (17, true), (18, true), (19, true), (20, true), (21, true), (22, true), (23, true), (24, true), (25, false), (26, true), (27, true), (28, true), (29, true), (30, true), (31, true), (32, true), (33, true), (34, true), (36, true), (35, false), (37, false), (38, true), (39, true)] (PlT W b6 M0 (.slice (some ⟨g, 0, none⟩) 25 cap') L5 V6.heap.size cc) (by kernel_rfl) (by kernel_rfl) (by decide) (by kernel_rfl) (fun d _ _ _ _ h => by cases d <;> exact h) HP7.out ?_
          iterate 11 ((apply wpOrd_take rfl rfl (by kernel_rfl); (intro V hV; have x1 : V.cell? ⟨b6, 1, none⟩ = some (.int .i64 (r : Int)) := (HAC.out _ hV.pls.act).2.1; go_simp; rfl)); (try simp only [List.setIfInBounds_toArray, List.set_cons_succ, List.set_cons_zero]))
          apply wpOrd_do rfl (by kernel_rfl)
          intro K hK
          go_simp
          refine (router_yes r _ h1 h2).mono ?_
          rintro e V7 ⟨rfl, rfl⟩
          refine hK _ _ HP7.out ?_
          clear hK K
          iterate 1 ((apply wpOrd_take rfl rfl (by kernel_rfl); (intro V hV; skip; go_simp; rfl)); (try simp only [List.setIfInBounds_toArray, List.set_cons_succ, List.set_cons_zero]))
          iterate 1 ((apply wpOrd_take rfl rfl (by kernel_rfl); (intro V hV; obtain ⟨z0, z1, z2, z3, z4, z5⟩ := BoxC.cells hV.box; (try simp only [Cn.zero] at z0 z1 z2 z3 z4 z5); go_simp; rfl)); (try simp only [List.setIfInBounds_toArray, List.set_cons_succ, List.set_cons_zero]))
          iterate 4 ((apply wpOrd_take rfl rfl (by kernel_rfl); (intro V hV; have x1 : V.cell? ⟨b6, 1, none⟩ = some (.int .i64 (r : Int)) := (HAC.out _ hV.pls.act).2.1; go_simp; rfl)); (try simp only [List.setIfInBounds_toArray, List.set_cons_succ, List.set_cons_zero]))
          iterate 1 ((apply wpOrd_take rfl rfl (by kernel_rfl); (intro V hV; obtain ⟨⟨y0, y1, y2, y3, y4, y5⟩, _⟩ := CRow.six (r := r) hV.pls.row (by omega); rw [HCG.out] at y0 y1 y2 y3 y4 y5; go_simp; rfl)); (try simp only [List.setIfInBounds_toArray, List.set_cons_succ, List.set_cons_zero]))
          iterate 4 ((apply wpOrd_take rfl rfl (by kernel_rfl); (intro V hV; skip; go_simp; rfl)); (try simp only [List.setIfInBounds_toArray, List.set_cons_succ, List.set_cons_zero]))
          iterate 2 ((apply wpOrd_take rfl rfl (by kernel_rfl); (intro V hV; have x1 : V.cell? ⟨b6, 1, none⟩ = some (.int .i64 (r : Int)) := (HAC.out _ hV.pls.act).2.1; go_simp; rfl)); (try simp only [List.setIfInBounds_toArray, List.set_cons_succ, List.set_cons_zero]))
          apply wpOrd_do rfl (by kernel_rfl)
          intro K hK
          go_simp
          refine (router_yes r _ h1 h2).mono ?_
          rintro e V8 ⟨rfl, rfl⟩
          refine hK _ _ HP7.out ?_
          clear hK K
          iterate 2 ((apply wpOrd_take rfl rfl (by kernel_rfl); (intro V hV; skip; go_simp; rfl)); (try simp only [List.setIfInBounds_toArray, List.set_cons_succ, List.set_cons_zero]))
          iterate 3 ((apply wpOrd_skip rfl rfl (by kernel_rfl)); (try simp only [List.setIfInBounds_toArray, List.set_cons_succ, List.set_cons_zero]))
          iterate 5 ((apply wpOrd_take rfl rfl (by kernel_rfl); (intro V hV; skip; go_simp; rfl)); (try simp only [List.setIfInBounds_toArray, List.set_cons_succ, List.set_cons_zero]))
          apply wpOrd_do rfl (by kernel_rfl)
          intro K hK
          go_simp
          refine (all_is _ _ _ sm HSM.out _ HP7.out.pls.tal).mono ?_
          rintro e V9 ⟨rfl, hb⟩
          have HP9 := Lib.hid (PlT.later HP7.out hb)
          refine hK _ _ HP9.out ?_
          clear hb
          clear hK K
          apply wpOrd_do rfl (by kernel_rfl)
          intro K hK
          go_simp
          refine (all15_is _ _ _ sm HSM.out _ HP9.out.pls.row).mono ?_
          rintro e V10 ⟨rfl, hb⟩
          have HP10 := Lib.hid (PlT.later HP9.out hb)
          refine hK _ _ HP10.out ?_
          clear hb
          clear hK K
          iterate 2 ((apply wpOrd_take rfl rfl (by kernel_rfl); (intro V hV; skip; go_simp; rfl)); (try simp only [List.setIfInBounds_toArray, List.set_cons_succ, List.set_cons_zero]))
          refine wpOrd_nil ?_
          have HR := Lib.hid (show PlaysRel W N (.slice (some ⟨g, 0, none⟩) 25 cap') (.int .i64 ((k : Int) + 1)) V10 from ⟨k + 1, L5, by go_num, by omega, by omega, HP10.out.pls.tal, HP10.out.pls.row, HP10.out.pls.bel⟩)
          go_wp2_with fail
          go_roundw
          case rel => first | exact HR.out | ((repeat apply Exists.intro); exact ⟨HR.out, rfl⟩)
          case measure => simp [intOf]; omega
        · obtain ⟨ri, hri⟩ : ∃ ri, ri = r0 := ⟨_, rfl⟩
          rw [← hri] at hrr HLOC HMC HX HAC
          clear hri
          have HRI := Lib.hid hrr
          clear hrr
          go_wp2_with ((with_reducible refine wpList_load_cs rfl 50 (.tmp 30) rfl _ rfl (Ac.cells M0).toList _ HC.out Try.underlying50 rfl HSZ.out ?_); rw [Array.toArray_toList, HMC.out])
          rw [← HX.out, ← HB6.out]
          refine (bad_err _ ri 2 X (.inr rfl) (at_arg _ ri X HP.out.tal.c0 HRI.out)).mono ?_
          rintro e V3 ⟨rfl, rfl⟩
          obtain ⟨x0, x1, x2, x3, x4, x5, x6, x7, x8, x9, x10, x11⟩ := HAC.out _ HP.out.act
          go_wp2_with fail
          refine (add15_no u4 ri ⟨1, 0, 0, 0, 0, 1⟩ X HRI.out).mono ?_
          rintro e V5 ⟨rfl, hb⟩
          have HP5 := Lib.hid (PlS.later HP.out hb)
          clear hb
          clear x0 x1 x2 x3 x4 x5 x6 x7 x8 x9 x10 x11
          obtain ⟨sm, hsm⟩ : ∃ sm, sumC L = sm := ⟨_, rfl⟩
          have HSM := Lib.hid hsm
          have HP6 := Lib.hid HP5.out
          clear hsm
          obtain ⟨x0, x1, x2, x3, x4, x5, x6, x7, x8, x9, x10, x11⟩ := HAC.out _ HP6.out.act
          go_wp2_with fail
          refine (At_err _ ri 2 V5 (.inr rfl) (fun V hV => at_arg _ ri V (HP6.out.tal.later hV).c0 HRI.out)).mono ?_
          rintro e V6 ⟨rfl, hb⟩
          obtain ⟨cc, hcc⟩ : ∃ cc, cc = Cn.zero := ⟨_, rfl⟩
          obtain ⟨Y, hY⟩ : ∃ Y, Y = V6.alloc (.cells #[.int .u64 0, .int .u64 0, .int .u64 0, .int .u64 0, .int .u64 0, .int .u64 0] 37) := ⟨_, rfl⟩
          have hby : Below V5.heap.size V5 Y := by rw [hY]; exact hb.alloc hb.size _
          have HP7 := Lib.hid (show PlT W b6 M0 u4 L V6.heap.size Cn.zero Y.drew from ⟨PlS.drew (PlS.later HP6.out hby), by rw [hY]; exact heap_alloc_new _ _⟩)
          have HY := Lib.hid hY
          clear hb hY hby x0 x1 x2 x3 x4 x5 x6 x7 x8 x9 x10 x11
          go_wp2_with fail
          rw [← HY.out]
          refine wp_region_ord [(0, true), (1, true), (2, true), (3, true), (4, true), (5, true), (6, true), (7, true), (8, true), (9, true), (10, true), (11, false), (12, true), (13, true), (14, true), (15, true), (16, true), (17, true), (18, true), (19, true), (20, true), (21, true), (22, true), (23, true), (24, true), (25, false), (26, true), (27, true), (28, true), (29, true), (30, true), (31, true), (32, true), (33, true), (34, true), (36, true), (35, false), (37, false), (38, true), (39, true)] (PlT W b6 M0 u4 L V6.heap.size Cn.zero) (by kernel_rfl) (by kernel_rfl) (by decide) (by kernel_rfl) (fun d _ _ _ _ h => by cases d <;> exact h) HP7.out ?_
          iterate 11 ((apply wpOrd_take rfl rfl (by kernel_rfl); (intro V hV; have x1 : V.cell? ⟨b6, 1, none⟩ = some (.int .i64 ri) := (HAC.out _ hV.pls.act).2.1; go_simp; rfl)); (try simp only [List.setIfInBounds_toArray, List.set_cons_succ, List.set_cons_zero]))
          apply wpOrd_do rfl (by kernel_rfl)
          intro K hK
          go_simp
          refine (router_no ri _ HRI.out).mono ?_
          rintro e V7 ⟨rfl, rfl⟩
          refine hK _ _ HP7.out ?_
          clear hK K
          iterate 1 ((apply wpOrd_take rfl rfl (by kernel_rfl); (intro V hV; skip; go_simp; rfl)); (try simp only [List.setIfInBounds_toArray, List.set_cons_succ, List.set_cons_zero]))
          iterate 7 ((apply wpOrd_skip rfl rfl (by kernel_rfl)); (try simp only [List.setIfInBounds_toArray, List.set_cons_succ, List.set_cons_zero]))
          iterate 3 ((apply wpOrd_take rfl rfl (by kernel_rfl); (intro V hV; skip; go_simp; rfl)); (try simp only [List.setIfInBounds_toArray, List.set_cons_succ, List.set_cons_zero]))
          iterate 2 ((apply wpOrd_take rfl rfl (by kernel_rfl); (intro V hV; have x1 : V.cell? ⟨b6, 1, none⟩ = some (.int .i64 ri) := (HAC.out _ hV.pls.act).2.1; go_simp; rfl)); (try simp only [List.setIfInBounds_toArray, List.set_cons_succ, List.set_cons_zero]))
          apply wpOrd_do rfl (by kernel_rfl)
          intro K hK
          go_simp
          refine (router_no ri _ HRI.out).mono ?_
          rintro e V8 ⟨rfl, rfl⟩
          refine hK _ _ HP7.out ?_
          clear hK K
          iterate 2 ((apply wpOrd_take rfl rfl (by kernel_rfl); (intro V hV; skip; go_simp; rfl)); (try simp only [List.setIfInBounds_toArray, List.set_cons_succ, List.set_cons_zero]))
          iterate 1 ((apply wpOrd_take rfl rfl (by kernel_rfl); (intro V hV; obtain ⟨z0, z1, z2, z3, z4, z5⟩ := BoxC.cells hV.box; (try simp only [Cn.zero] at z0 z1 z2 z3 z4 z5); go_simp; rfl)); (try simp only [List.setIfInBounds_toArray, List.set_cons_succ, List.set_cons_zero]))
          iterate 2 ((apply wpOrd_take rfl rfl (by kernel_rfl); (intro V hV; skip; go_simp; rfl)); (try simp only [List.setIfInBounds_toArray, List.set_cons_succ, List.set_cons_zero]))
          iterate 5 ((apply wpOrd_take rfl rfl (by kernel_rfl); (intro V hV; skip; go_simp; rfl)); (try simp only [List.setIfInBounds_toArray, List.set_cons_succ, List.set_cons_zero]))
          apply wpOrd_do rfl (by kernel_rfl)
          intro K hK
          go_simp
          refine (all_is _ _ _ sm HSM.out _ HP7.out.pls.tal).mono ?_
          rintro e V9 ⟨rfl, hb⟩
          have HP9 := Lib.hid (PlT.later HP7.out hb)
          refine hK _ _ HP9.out ?_
          clear hb
          clear hK K
          apply wpOrd_do rfl (by kernel_rfl)
          intro K hK
          go_simp
          refine (all15_is _ _ _ sm HSM.out _ HP9.out.pls.row).mono ?_
          rintro e V10 ⟨rfl, hb⟩
          have HP10 := Lib.hid (PlT.later HP9.out hb)
          refine hK _ _ HP10.out ?_
          clear hb
          clear hK K
          iterate 2 ((apply wpOrd_take rfl rfl (by kernel_rfl); (intro V hV; skip; go_simp; rfl)); (try simp only [List.setIfInBounds_toArray, List.set_cons_succ, List.set_cons_zero]))
          refine wpOrd_nil ?_
          have HR := Lib.hid (show PlaysRel W N u4 (.int .i64 ((k : Int) + 1)) V10 from ⟨k + 1, L, by go_num, by omega, by omega, HP10.out.pls.tal, HP10.out.pls.row, HP10.out.pls.bel⟩)
          go_wp2_with fail
          go_roundw
          case rel => first | exact HR.out | ((repeat apply Exists.intro); exact ⟨HR.out, rfl⟩)
          case measure => simp [intOf]; omega
      · have hw0 : (w == 0) = false := by rw [beq_eq_false_iff_ne]; exact hw0
        have hw1 : (w == 1) = false := by rw [beq_eq_false_iff_ne]; exact hw1
        rcases hrr with hrr | hrr
        · obtain ⟨r, rfl⟩ : ∃ r : Nat, r0 = (r : Int) := ⟨r0.toNat, by omega⟩
          have h1 : 1 ≤ r := by omega
          have h2 : r ≤ 24 := by omega
          have hr25 : (r : Int) < 25 := by omega
          clear hrr
          go_wp2_with ((with_reducible refine wpList_load_cs rfl 50 (.tmp 30) rfl _ rfl (Ac.cells M0).toList _ HC.out Try.underlying50 rfl HSZ.out ?_); rw [Array.toArray_toList, HMC.out])
          rw [← HX.out, ← HB6.out]
          refine (clear_any _ r _ _ X HP.out.tal h1 h2).mono ?_
          rintro e V3 ⟨rfl, ht3, hg3⟩
          have HQ := Lib.hid (PlS.step HP.out ht3 hg3)
          clear ht3 hg3
          obtain ⟨x0, x1, x2, x3, x4, x5, x6, x7, x8, x9, x10, x11⟩ := HAC.out _ HQ.out.act
          go_wp2_with fail
          refine (clear15_any u4 r _ L V3 HQ.out.row h1 h2).mono ?_
          rintro e V5 ⟨v', rfl, hr5, hb⟩
          have HP5 := Lib.hid (PlM.done HQ.out hb hr5)
          clear hb hr5 x0 x1 x2 x3 x4 x5 x6 x7 x8 x9 x10 x11
          obtain ⟨L5, hL5⟩ : ∃ L5, L5 = L.set r Cn.zero := ⟨_, rfl⟩
          have hp5 := HP5.out
          rw [← hL5] at hp5
          obtain ⟨g, cap', hv', _, _, _, _, _, _⟩ := hp5.row.1.form (by omega)
          subst hv'
          obtain ⟨cc, hcc⟩ : ∃ cc, L5.getD r default = cc := ⟨_, rfl⟩
          obtain ⟨sm, hsm⟩ : ∃ sm, sumC L5 = sm := ⟨_, rfl⟩
          have HCG := Lib.hid hcc
          have HSM := Lib.hid hsm
          have HP6 := Lib.hid hp5
          clear hp5 hcc hsm hL5 HP5
          obtain ⟨x0, x1, x2, x3, x4, x5, x6, x7, x8, x9, x10, x11⟩ := HAC.out _ HP6.out.act
          go_wp2_with fail
          refine (At_is _ r _ _ cc HCG.out V5 HP6.out.tal h1 h2).mono ?_
          rintro e V6 ⟨rfl, hb⟩
          obtain ⟨Y, hY⟩ : ∃ Y, Y = V6.alloc (.cells #[.int .u64 cc.got, .int .u64 cc.loc, .int .u64 cc.cop, .int .u64 cc.los, .int .u64 cc.exp, .int .u64 cc.bad] 37) := ⟨_, rfl⟩
          have hby : Below V5.heap.size V5 Y := by rw [hY]; exact hb.alloc hb.size _
          have HP7 := Lib.hid (show PlT W b6 M0 (.slice (some ⟨g, 0, none⟩) 25 cap') L5 V6.heap.size cc Y.drew from ⟨PlS.drew (PlS.later HP6.out hby), by rw [hY]; exact heap_alloc_new _ _⟩)
          have HY := Lib.hid hY
          clear hb hY hby x0 x1 x2 x3 x4 x5 x6 x7 x8 x9 x10 x11
          go_wp2_with fail
          rw [← HY.out]
          refine wp_region_ord [(0, true), (1, true), (2, true), (3, true), (4, true), (5, true), (6, true), (7, true), (8, true), (9, true), (10, true), (11, false), (12, true), (13, true), (14, true), (15, true), (16, true), (17, true), (18, true), (19, true), (20, true), (21, true), (22, true), (23, true), (24, true), (25, false), (26, true), (27, true), (28, true), (29, true), (30, true), (31, true), (32, true), (33, true), (34, true), (36, true), (35, false), (37, false), (38, true), (39, true)] (PlT W b6 M0 (.slice (some ⟨g, 0, none⟩) 25 cap') L5 V6.heap.size cc) (by kernel_rfl) (by kernel_rfl) (by decide) (by kernel_rfl) (fun d _ _ _ _ h => by cases d <;> exact h) HP7.out ?_
          iterate 11 ((apply wpOrd_take rfl rfl (by kernel_rfl); (intro V hV; have x1 : V.cell? ⟨b6, 1, none⟩ = some (.int .i64 (r : Int)) := (HAC.out _ hV.pls.act).2.1; go_simp; rfl)); (try simp only [List.setIfInBounds_toArray, List.set_cons_succ, List.set_cons_zero]))
          apply wpOrd_do rfl (by kernel_rfl)
          intro K hK
          go_simp
          refine (router_yes r _ h1 h2).mono ?_
          rintro e V7 ⟨rfl, rfl⟩
          refine hK _ _ HP7.out ?_
          clear hK K
          iterate 1 ((apply wpOrd_take rfl rfl (by kernel_rfl); (intro V hV; skip; go_simp; rfl)); (try simp only [List.setIfInBounds_toArray, List.set_cons_succ, List.set_cons_zero]))
          iterate 1 ((apply wpOrd_take rfl rfl (by kernel_rfl); (intro V hV; obtain ⟨z0, z1, z2, z3, z4, z5⟩ := BoxC.cells hV.box; (try simp only [Cn.zero] at z0 z1 z2 z3 z4 z5); go_simp; rfl)); (try simp only [List.setIfInBounds_toArray, List.set_cons_succ, List.set_cons_zero]))
          iterate 4 ((apply wpOrd_take rfl rfl (by kernel_rfl); (intro V hV; have x1 : V.cell? ⟨b6, 1, none⟩ = some (.int .i64 (r : Int)) := (HAC.out _ hV.pls.act).2.1; go_simp; rfl)); (try simp only [List.setIfInBounds_toArray, List.set_cons_succ, List.set_cons_zero]))
          iterate 1 ((apply wpOrd_take rfl rfl (by kernel_rfl); (intro V hV; obtain ⟨⟨y0, y1, y2, y3, y4, y5⟩, _⟩ := CRow.six (r := r) hV.pls.row (by omega); rw [HCG.out] at y0 y1 y2 y3 y4 y5; go_simp; rfl)); (try simp only [List.setIfInBounds_toArray, List.set_cons_succ, List.set_cons_zero]))
          iterate 4 ((apply wpOrd_take rfl rfl (by kernel_rfl); (intro V hV; skip; go_simp; rfl)); (try simp only [List.setIfInBounds_toArray, List.set_cons_succ, List.set_cons_zero]))
          iterate 2 ((apply wpOrd_take rfl rfl (by kernel_rfl); (intro V hV; have x1 : V.cell? ⟨b6, 1, none⟩ = some (.int .i64 (r : Int)) := (HAC.out _ hV.pls.act).2.1; go_simp; rfl)); (try simp only [List.setIfInBounds_toArray, List.set_cons_succ, List.set_cons_zero]))
          apply wpOrd_do rfl (by kernel_rfl)
          intro K hK
          go_simp
          refine (router_yes r _ h1 h2).mono ?_
          rintro e V8 ⟨rfl, rfl⟩
          refine hK _ _ HP7.out ?_
          clear hK K
          iterate 2 ((apply wpOrd_take rfl rfl (by kernel_rfl); (intro V hV; skip; go_simp; rfl)); (try simp only [List.setIfInBounds_toArray, List.set_cons_succ, List.set_cons_zero]))
          iterate 3 ((apply wpOrd_skip rfl rfl (by kernel_rfl)); (try simp only [List.setIfInBounds_toArray, List.set_cons_succ, List.set_cons_zero]))
          iterate 5 ((apply wpOrd_take rfl rfl (by kernel_rfl); (intro V hV; skip; go_simp; rfl)); (try simp only [List.setIfInBounds_toArray, List.set_cons_succ, List.set_cons_zero]))
          apply wpOrd_do rfl (by kernel_rfl)
          intro K hK
          go_simp
          refine (all_is _ _ _ sm HSM.out _ HP7.out.pls.tal).mono ?_
          rintro e V9 ⟨rfl, hb⟩
          have HP9 := Lib.hid (PlT.later HP7.out hb)
          refine hK _ _ HP9.out ?_
          clear hb
          clear hK K
          apply wpOrd_do rfl (by kernel_rfl)
          intro K hK
          go_simp
          refine (all15_is _ _ _ sm HSM.out _ HP9.out.pls.row).mono ?_
          rintro e V10 ⟨rfl, hb⟩
          have HP10 := Lib.hid (PlT.later HP9.out hb)
          refine hK _ _ HP10.out ?_
          clear hb
          clear hK K
          iterate 2 ((apply wpOrd_take rfl rfl (by kernel_rfl); (intro V hV; skip; go_simp; rfl)); (try simp only [List.setIfInBounds_toArray, List.set_cons_succ, List.set_cons_zero]))
          refine wpOrd_nil ?_
          have HR := Lib.hid (show PlaysRel W N (.slice (some ⟨g, 0, none⟩) 25 cap') (.int .i64 ((k : Int) + 1)) V10 from ⟨k + 1, L5, by go_num, by omega, by omega, HP10.out.pls.tal, HP10.out.pls.row, HP10.out.pls.bel⟩)
          go_wp2_with fail
          go_roundw
          case rel => first | exact HR.out | ((repeat apply Exists.intro); exact ⟨HR.out, rfl⟩)
          case measure => simp [intOf]; omega
        · obtain ⟨ri, hri⟩ : ∃ ri, ri = r0 := ⟨_, rfl⟩
          rw [← hri] at hrr HLOC HMC HX HAC
          clear hri
          have HRI := Lib.hid hrr
          clear hrr
          go_wp2_with ((with_reducible refine wpList_load_cs rfl 50 (.tmp 30) rfl _ rfl (Ac.cells M0).toList _ HC.out Try.underlying50 rfl HSZ.out ?_); rw [Array.toArray_toList, HMC.out])
          rw [← HX.out, ← HB6.out]
          refine (clear_err _ ri 2 X (.inr rfl) (at_arg _ ri X HP.out.tal.c0 HRI.out)).mono ?_
          rintro e V3 ⟨rfl, rfl⟩
          obtain ⟨x0, x1, x2, x3, x4, x5, x6, x7, x8, x9, x10, x11⟩ := HAC.out _ HP.out.act
          go_wp2_with fail
          refine (clear15_no u4 ri X HRI.out).mono ?_
          rintro e V5x ⟨rfl, rfl⟩
          have HP5 := Lib.hid HP.out
          clear x0 x1 x2 x3 x4 x5 x6 x7 x8 x9 x10 x11
          obtain ⟨sm, hsm⟩ : ∃ sm, sumC L = sm := ⟨_, rfl⟩
          have HSM := Lib.hid hsm
          have HP6 := Lib.hid HP5.out
          clear hsm
          obtain ⟨x0, x1, x2, x3, x4, x5, x6, x7, x8, x9, x10, x11⟩ := HAC.out _ HP6.out.act
          go_wp2_with fail
          refine (At_err _ ri 2 X (.inr rfl) (fun V hV => at_arg _ ri V (HP6.out.tal.later hV).c0 HRI.out)).mono ?_
          rintro e V6 ⟨rfl, hb⟩
          obtain ⟨cc, hcc⟩ : ∃ cc, cc = Cn.zero := ⟨_, rfl⟩
          obtain ⟨Y, hY⟩ : ∃ Y, Y = V6.alloc (.cells #[.int .u64 0, .int .u64 0, .int .u64 0, .int .u64 0, .int .u64 0, .int .u64 0] 37) := ⟨_, rfl⟩
          have hby : Below X.heap.size X Y := by rw [hY]; exact hb.alloc hb.size _
          have HP7 := Lib.hid (show PlT W b6 M0 u4 L V6.heap.size Cn.zero Y.drew from ⟨PlS.drew (PlS.later HP6.out hby), by rw [hY]; exact heap_alloc_new _ _⟩)
          have HY := Lib.hid hY
          clear hb hY hby x0 x1 x2 x3 x4 x5 x6 x7 x8 x9 x10 x11
          go_wp2_with fail
          rw [← HY.out]
          refine wp_region_ord [(0, true), (1, true), (2, true), (3, true), (4, true), (5, true), (6, true), (7, true), (8, true), (9, true), (10, true), (11, false), (12, true), (13, true), (14, true), (15, true), (16, true), (17, true), (18, true), (19, true), (20, true), (21, true), (22, true), (23, true), (24, true), (25, false), (26, true), (27, true), (28, true), (29, true), (30, true), (31, true), (32, true), (33, true), (34, true), (36, true), (35, false), (37, false), (38, true), (39, true)] (PlT W b6 M0 u4 L V6.heap.size Cn.zero) (by kernel_rfl) (by kernel_rfl) (by decide) (by kernel_rfl) (fun d _ _ _ _ h => by cases d <;> exact h) HP7.out ?_
          iterate 11 ((apply wpOrd_take rfl rfl (by kernel_rfl); (intro V hV; have x1 : V.cell? ⟨b6, 1, none⟩ = some (.int .i64 ri) := (HAC.out _ hV.pls.act).2.1; go_simp; rfl)); (try simp only [List.setIfInBounds_toArray, List.set_cons_succ, List.set_cons_zero]))
          apply wpOrd_do rfl (by kernel_rfl)
          intro K hK
          go_simp
          refine (router_no ri _ HRI.out).mono ?_
          rintro e V7 ⟨rfl, rfl⟩
          refine hK _ _ HP7.out ?_
          clear hK K
          iterate 1 ((apply wpOrd_take rfl rfl (by kernel_rfl); (intro V hV; skip; go_simp; rfl)); (try simp only [List.setIfInBounds_toArray, List.set_cons_succ, List.set_cons_zero]))
          iterate 7 ((apply wpOrd_skip rfl rfl (by kernel_rfl)); (try simp only [List.setIfInBounds_toArray, List.set_cons_succ, List.set_cons_zero]))
          iterate 3 ((apply wpOrd_take rfl rfl (by kernel_rfl); (intro V hV; skip; go_simp; rfl)); (try simp only [List.setIfInBounds_toArray, List.set_cons_succ, List.set_cons_zero]))
          iterate 2 ((apply wpOrd_take rfl rfl (by kernel_rfl); (intro V hV; have x1 : V.cell? ⟨b6, 1, none⟩ = some (.int .i64 ri) := (HAC.out _ hV.pls.act).2.1; go_simp; rfl)); (try simp only [List.setIfInBounds_toArray, List.set_cons_succ, List.set_cons_zero]))
          apply wpOrd_do rfl (by kernel_rfl)
          intro K hK
          go_simp
          refine (router_no ri _ HRI.out).mono ?_
          rintro e V8 ⟨rfl, rfl⟩
          refine hK _ _ HP7.out ?_
          clear hK K
          iterate 2 ((apply wpOrd_take rfl rfl (by kernel_rfl); (intro V hV; skip; go_simp; rfl)); (try simp only [List.setIfInBounds_toArray, List.set_cons_succ, List.set_cons_zero]))
          iterate 1 ((apply wpOrd_take rfl rfl (by kernel_rfl); (intro V hV; obtain ⟨z0, z1, z2, z3, z4, z5⟩ := BoxC.cells hV.box; (try simp only [Cn.zero] at z0 z1 z2 z3 z4 z5); go_simp; rfl)); (try simp only [List.setIfInBounds_toArray, List.set_cons_succ, List.set_cons_zero]))
          iterate 2 ((apply wpOrd_take rfl rfl (by kernel_rfl); (intro V hV; skip; go_simp; rfl)); (try simp only [List.setIfInBounds_toArray, List.set_cons_succ, List.set_cons_zero]))
          iterate 5 ((apply wpOrd_take rfl rfl (by kernel_rfl); (intro V hV; skip; go_simp; rfl)); (try simp only [List.setIfInBounds_toArray, List.set_cons_succ, List.set_cons_zero]))
          apply wpOrd_do rfl (by kernel_rfl)
          intro K hK
          go_simp
          refine (all_is _ _ _ sm HSM.out _ HP7.out.pls.tal).mono ?_
          rintro e V9 ⟨rfl, hb⟩
          have HP9 := Lib.hid (PlT.later HP7.out hb)
          refine hK _ _ HP9.out ?_
          clear hb
          clear hK K
          apply wpOrd_do rfl (by kernel_rfl)
          intro K hK
          go_simp
          refine (all15_is _ _ _ sm HSM.out _ HP9.out.pls.row).mono ?_
          rintro e V10 ⟨rfl, hb⟩
          have HP10 := Lib.hid (PlT.later HP9.out hb)
          refine hK _ _ HP10.out ?_
          clear hb
          clear hK K
          iterate 2 ((apply wpOrd_take rfl rfl (by kernel_rfl); (intro V hV; skip; go_simp; rfl)); (try simp only [List.setIfInBounds_toArray, List.set_cons_succ, List.set_cons_zero]))
          refine wpOrd_nil ?_
          have HR := Lib.hid (show PlaysRel W N u4 (.int .i64 ((k : Int) + 1)) V10 from ⟨k + 1, L, by go_num, by omega, by omega, HP10.out.pls.tal, HP10.out.pls.row, HP10.out.pls.bel⟩)
          go_wp2_with fail
          go_roundw
          case rel => first | exact HR.out | ((repeat apply Exists.intro); exact ⟨HR.out, rfl⟩)
          case measure => simp [intOf]; omega
    · have hend : (k < N ∧ 60 ≤ k) ∨ N ≤ k := by omega
      have hbits : (k < N ∧ 60 ≤ k ∧ decide ((k : Int) < 60) = false) ∨ (N ≤ k ∧ decide (k < N) = false) := by
        rcases hend with ⟨h1, h2⟩ | h1
        · exact .inl ⟨h1, h2, decide_eq_false (by omega)⟩
        · exact .inr ⟨h1, decide_eq_false (by omega)⟩
      clear hend hgo
      obtain ⟨g, cap', hv', hgb, hgs, _, _, _, _⟩ := hr.1.form (by omega)
      subst hv'
      obtain ⟨c, hc⟩ : ∃ c, L.getD 1 default = c := ⟨_, rfl⟩
      have HC := Lib.hid hc
      have HCP := Lib.hid (copy_any W.heap.size W.heap.size L wr ht)
      have HT := Lib.hid ht
      have HR := Lib.hid hr
      have HB := Lib.hid hb
      have hlt := ht.lt
      clear hc ht hr hb
      rcases hbits with ⟨hkN', hk60, hk60'⟩ | ⟨hkN, hkN'⟩
      all_goals
        go_wp2_with fail
        refine HCP.out.mono ?_
        rintro e V1 ⟨rfl, ht, hb⟩
        have HT1 := Lib.hid (HT.out.later hb)
        have HU1 := Lib.hid ht
        have HR1 := Lib.hid (HR.out.later hb)
        have HB1 := Lib.hid (HB.out.trans (hb.mono HB.out.size))
        have hs1 := hb.size
        clear ht hb
        go_wp2_with fail
        refine (bad_any _ 1 _ _ V1 HU1.out (by omega) (by omega)).mono ?_
        rintro e V2 ⟨rfl, _, hg⟩
        have HT2 := Lib.hid (HT1.out.kept hg (by simp; omega))
        have HR2 := Lib.hid (HR1.out.kept hg (.inr (by simp [Value.ownBlock]; omega)))
        have HB2 := Lib.hid (HB1.out.grown hg HB1.out.size (fun q hq => by cases hq; omega))
        clear hg
        go_wp2_with fail
        refine (At_is _ 1 _ _ c HC.out V2 HT2.out (by omega) (by omega)).mono ?_
        rintro e V3 ⟨rfl, hb⟩
        obtain ⟨Y, hY⟩ : ∃ Y, Y = V3.alloc (.cells #[.int .u64 c.got, .int .u64 c.loc, .int .u64 c.cop, .int .u64 c.los, .int .u64 c.exp, .int .u64 c.bad] 37) := ⟨_, rfl⟩
        have hby : Below V2.heap.size V2 Y := by rw [hY]; exact hb.alloc hb.size _
        have HS := Lib.hid (show CRow Y.drew (W.heap.size + 1) (.slice (some ⟨g, 0, none⟩) 25 cap') L ∧ BoxC V3.heap.size c Y.drew ∧ Below W.heap.size W Y.drew from ⟨(HR2.out.later hby).later ⟨rfl, rfl, rfl, Nat.le_refl _, fun _ _ => rfl⟩, by rw [hY]; exact heap_alloc_new _ _, (HB2.out.trans (hby.mono HB2.out.size)).trans ⟨rfl, rfl, rfl, Nat.le_refl _, fun _ _ => rfl⟩⟩)
        have HY := Lib.hid hY
        clear hb hY hby
        go_wp2_with fail
        rw [← HY.out]
        refine wp_region_ord [(0, true), (1, true), (2, true), (3, true), (4, true), (5, true), (6, true), (7, true), (8, true), (9, true), (10, false), (11, true), (12, true)] (fun V => CRow V (W.heap.size + 1) (.slice (some ⟨g, 0, none⟩) 25 cap') L ∧ BoxC V3.heap.size c V ∧ Below W.heap.size W V) (by kernel_rfl) (by kernel_rfl) (by decide) (by kernel_rfl) (fun d _ _ _ _ h => by cases d <;> exact h) HS.out ?_
        iterate 10 ((apply wpOrd_take rfl rfl (by kernel_rfl); (intro V hV; obtain ⟨z0, z1, z2, z3, z4, z5⟩ := BoxC.cells hV.2.1; obtain ⟨⟨y0, y1, y2, y3, y4, y5⟩, _⟩ := CRow.six (r := 1) hV.1 (by omega); rw [HC.out] at y0 y1 y2 y3 y4 y5; simp only [Nat.one_mul] at y0 y1 y2 y3 y4 y5; go_simp; rfl)); (try simp only [List.setIfInBounds_toArray, List.set_cons_succ, List.set_cons_zero]))
        apply wpOrd_do rfl (by kernel_rfl)
        intro K hK
        go_simp
        refine (HW.out _).mono ?_
        rintro e V4 ⟨rfl, hb⟩
        have HS4 := Lib.hid (And.intro (HS.out.1.later hb) (And.intro (BoxC.later HS.out.2.1 hb) (HS.out.2.2.trans (hb.mono HS.out.2.2.size))))
        refine hK _ _ HS4.out ?_
        clear hK K hb
        iterate 2 ((apply wpOrd_take rfl rfl (by kernel_rfl); (intro V hV; skip; go_simp; rfl)); (try simp only [List.setIfInBounds_toArray, List.set_cons_succ, List.set_cons_zero]))
        refine wpOrd_nil ?_
        go_wp2_with fail
        go_returns
        exact ⟨rfl, HS4.out.2.2⟩

end Go.Proofs.Ytnfdkgmikijbgaa
