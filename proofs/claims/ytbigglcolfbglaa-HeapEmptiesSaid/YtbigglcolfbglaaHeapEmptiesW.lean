/- The walk of the law HeapEmpties. -/
import Derived.Test.YtbigglcolfbglaaHeapT
import Derived.IntWalk
set_option linter.unusedSimpArgs false
set_option linter.unusedVariables false
namespace Go.Proofs.Ytbigglcolfbglaa
open Go.RowKit Go.ChangeShapes Go.WideShapes

/-- The cells of a list of small integers. -/
def I16At (W : World) (a0 : Option Addr) (xs : List Int) : Prop := ∀ i, i < xs.length → ∃ ad, a0 = some ad ∧ W.cell? (ad.add i) = some (.int .i16 (xs.getD i default)) ∧ -32768 ≤ xs.getD i default ∧ xs.getD i default ≤ 32767
theorem i16_open {H : Type} {enc : TypeId × Value → H} {r : Reach} {base : Nat} {W : World} {v : Value} {d : DataW H} {p : List MemPlace} (hv : Value.okWide Try.prog W r base 42 v) (h : DataW.Trod enc Try.prog W 0 (fun _ => true) true 42 v d p) (_ : ∀ n ∈ d.weights Try.prog 42, n ≤ reachBytes) :
    ∃ x : Option Addr × Nat × List Int, v = .slice x.1 x.2.2.length x.2.1 ∧ I16At W x.1 x.2.2 := by
  obtain ⟨a0, len, cap, rfl⟩ := okWide_slice Try.underlying42 hv
  obtain ⟨rows, hl, hf, hc, _⟩ := slice_rows (n := 5) (ts := [43]) Try.underlying42 (by kernel_rfl) (by kernel_rfl) h
  obtain ⟨xs, rfl, hQ⟩ := all_form (f := fun x : Int => [Value.int .i16 x]) (Q := fun x => -32768 ≤ x ∧ x ≤ 32767) rows (by
    intro i row hr
    obtain ⟨X, hX, _⟩ := hf i row hr
    obtain ⟨n0, e0, hw⟩ := hX.int (j := 0) rfl Try.underlying43
    refine ⟨n0, bounds_i16 hw, ?_⟩
    have hl := hX.1
    match row, hl with
    | [x], _ => simp at e0; rw [e0])
  rw [List.length_map] at hl
  refine ⟨(a0, cap, xs), by rw [← hl], fun i hi => ?_⟩
  have hrow : (xs.map (fun x : Int => [Value.int .i16 x]))[i]? = some [Value.int .i16 (xs.getD i default)] := by simp [List.getD_eq_getElem?_getD, hi]
  obtain ⟨ad, h1, h2⟩ := hc i 0 _ _ hrow rfl
  have hm : xs.getD i default ∈ xs := by rw [List.getD_eq_getElem?_getD, List.getElem?_eq_getElem hi]; exact List.getElem_mem hi
  exact ⟨ad, h1, by simpa using h2, hQ _ hm⟩

/-- The things: a key out of the list, and the place. -/
def ths (xs : List Int) (m : Nat) : List (Int × Int) := (List.range m).map fun i => ((xs.getD i default).tmod 16, (i : Int))
theorem ths_length (xs : List Int) (m : Nat) : (ths xs m).length = m := by simp [ths]
theorem ths_get {xs : List Int} {m i : Nat} (h : i < m) : (ths xs m).getD i default = ((xs.getD i default).tmod 16, (i : Int)) := by simp [ths, List.getD_eq_getElem?_getD, h]
theorem ths_take (xs : List Int) (m k : Nat) (h : k ≤ m) : (ths xs m).take k = ths xs k := by
  simp [ths, ← List.map_take, List.take_range, Nat.min_eq_left h]
theorem ths_succ (xs : List Int) (k : Nat) : ths xs (k + 1) = ths xs k ++ [((xs.getD k default).tmod 16, (k : Int))] := by simp [ths, List.range_succ]
theorem ths_age (xs : List Int) (m : Nat) : (ths xs m).Pairwise fun a b => a.2 < b.2 := by
  rw [ths, List.pairwise_map]
  exact List.pairwise_lt_range.imp fun h => by simpa using h

/-- What comes out is in order. -/
def ordd (x y : Int × Int) : Prop := x.1 < y.1 ∨ (x.1 = y.1 ∧ x.2 < y.2)
theorem sel_ordd : ∀ (n : Nat) (l : List (Int × Int)), l.length = n → (l.Pairwise fun a b => a.2 < b.2) → (sel tkey n l).Pairwise ordd ∧ ∀ y ∈ sel tkey n l, y ∈ l
  | 0, _, _, _ => ⟨.nil, by simp [sel]⟩
  | n + 1, l, hl, hp => by
    obtain ⟨a, ha, hf⟩ := lsA_first (key := tkey) (l := l) (by omega)
    have hal := hf.1
    have hx : l.getD a default = l[a] := by simp [List.getD_eq_getElem?_getD, hal]
    obtain ⟨h1, h2⟩ := sel_ordd n (l.eraseIdx a) (by rw [List.length_eraseIdx_of_lt hal]; omega) (hp.sublist (List.eraseIdx_sublist l a))
    have hsel : sel tkey (n + 1) l = l[a] :: sel tkey n (l.eraseIdx a) := by rw [sel, ha, Int.toNat_natCast, hx]
    rw [hsel]
    refine ⟨List.pairwise_cons.2 ⟨fun y hy => ?_, h1⟩, fun y hy => ?_⟩
    · have hy' := h2 y hy
      rw [List.mem_eraseIdx_iff_getElem] at hy'
      obtain ⟨j, hj, hja, rfl⟩ := hy'
      have hg : l.getD j default = l[j] := by simp [List.getD_eq_getElem?_getD, hj]
      rcases Nat.lt_or_gt_of_ne hja with h | h
      · have := hf.2.2 j h
        rw [hx, hg] at this
        exact .inl this
      · have h3 := hf.2.1 j hj
        rw [hx, hg] at h3
        have h4 := List.pairwise_iff_getElem.1 hp a j hal hj h
        have h3' : l[a].1 ≤ l[j].1 := h3
        unfold ordd
        omega
    · rcases List.mem_cons.1 hy with rfl | hy
      · exact List.getElem_mem hal
      · exact (List.eraseIdx_sublist l a).subset (h2 y hy)

def EmRel1 (W : World) (xs : List Int) (m : Nat) (o i : Value) (wr : World) : Prop :=
  ∃ (k : Nat) (s : Value), i = .int .i64 k ∧ k ≤ m ∧ tAt wr W.heap.size W.heap.size 9 #[] (pushs (lah tlt) [] 0 (ths xs k)) k s ∧ TRow wr W.heap.size o (ths xs k) ∧ Below W.heap.size W wr ∧ ∀ q, o.ownBlock = some q → q ≠ W.heap.size ∧ s.ownBlock ≠ some q
def EmMid (W : World) (L : List ((Int × Int) × Nat)) (k : Nat) (Q : List (Int × Int)) (o : Value) (wr : World) : Prop :=
  ∃ s : Value, tAt wr W.heap.size W.heap.size 9 #[] L k s ∧ TRow wr W.heap.size o Q ∧ Below W.heap.size W wr ∧ ∀ q, o.ownBlock = some q → q ≠ W.heap.size ∧ s.ownBlock ≠ some q
theorem em_append {W wr B1 w2 : World} {L : List ((Int × Int) × Nat)} {k : Nat} {Q : List (Int × Int)} {o o' : Value} {x : Int × Int} (h : EmMid W L k Q o wr) (hQ : Q.length = k) (hB1 : Below wr.heap.size wr B1)
    (hrow' : Row w2 W.heap.size 26 2 o' (k + 1) (tS Q ++ tS [x])) (hg : B1.grownBy w2 o.ownBlock) (ho : o'.ownBlock = o.ownBlock ∨ o'.ownBlock = some B1.heap.size) : EmMid W L k (Q ++ [x]) o' w2 := by
  obtain ⟨s, hat, hrow, hb, hap⟩ := h
  have hatB := HeapAt.later hat hB1
  have hbB := hb.trans (hB1.mono hb.size)
  refine ⟨s, HeapAt.same hatB (hg.block _ hatB.lt fun e => (hap _ e.symm).1 rfl) fun q hq => hg.block q (hatB.row.lt q hq).2 fun e => (hap q e.symm).2 hq, ?_, hbB.grown hg hbB.size fun q hq => (Row.lt hrow q hq).1, fun q hq => ?_⟩
  · show Row _ _ _ _ _ _ _
    rw [tS_append, List.length_append, hQ]
    exact hrow'
  · rcases ho with e | e
    · exact hap q (e ▸ hq)
    · rw [e] at hq
      simp only [Option.some.injEq] at hq
      subst hq
      exact ⟨by have := hatB.lt; omega, fun e' => by have := (hatB.row.lt _ e').2; omega⟩
theorem em_push {W w2 V : World} {L : List ((Int × Int) × Nat)} {k : Nat} {Q : List (Int × Int)} {s o : Value} {x : Int × Int} (hat : tAt w2 W.heap.size W.heap.size 9 #[] L k s) (hrow : TRow w2 W.heap.size o Q) (hb : Below W.heap.size W w2) (hap : ∀ q, o.ownBlock = some q → q ≠ W.heap.size ∧ s.ownBlock ≠ some q)
    (hp : tPushed tlt w2 W.heap.size W.heap.size 9 #[] L x k s V) : EmMid W (up (lah tlt) L.length (L ++ [(x, k)])) (k + 1) Q o V := by
  obtain ⟨s', hat', T⟩ := hp
  refine ⟨s', hat', Row.same hrow fun q hq => T.block q (Row.lt hrow q hq).2 (hap q hq).1 (hap q hq).2, hb.trans (T.below hb.size (Nat.le_refl _) fun q hq => ((HeapAt.row hat).lt q hq).1), fun q hq => ⟨(hap q hq).1, fun e => ?_⟩⟩
  rcases T.own with e' | ⟨k', e', hk'⟩
  · exact (hap q hq).2 (e' ▸ e)
  · rw [e'] at e; simp only [Option.some.injEq] at e; have := (Row.lt hrow q hq).2; omega
theorem em_pop {W w2 V : World} {L : List ((Int × Int) × Nat)} {k : Nat} {Q P : List (Int × Int)} {s o p : Value} {b : Nat} (hat : tAt w2 W.heap.size W.heap.size 9 #[] L k s) (hrow : TRow w2 W.heap.size o Q) (hrow2 : TRow w2 b p P) (hb : Below W.heap.size W w2) (hap : ∀ q, o.ownBlock = some q → q ≠ W.heap.size ∧ s.ownBlock ≠ some q) (hap2 : ∀ q, p.ownBlock = some q → q ≠ W.heap.size ∧ s.ownBlock ≠ some q)
    (hp : tPopped tlt w2 W.heap.size W.heap.size 9 #[] L k s V) : ∃ s', tAt V W.heap.size W.heap.size 9 #[] (popL (lah tlt) L) k s' ∧ TRow V W.heap.size o Q ∧ TRow V b p P ∧ Below W.heap.size W V ∧ (∀ q, o.ownBlock = some q → q ≠ W.heap.size ∧ s'.ownBlock ≠ some q) ∧ ∀ q, p.ownBlock = some q → q ≠ W.heap.size ∧ s'.ownBlock ≠ some q := by
  obtain ⟨s', hat', T⟩ := hp
  have key : ∀ q, q < w2.heap.size → s.ownBlock ≠ some q → s'.ownBlock ≠ some q := fun q hq hs e => by
    rcases T.own with e' | ⟨k', e', hk'⟩
    · exact hs (e' ▸ e)
    · rw [e'] at e; simp only [Option.some.injEq] at e; omega
  exact ⟨s', hat', Row.same hrow fun q hq => T.block q (Row.lt hrow q hq).2 (hap q hq).1 (hap q hq).2, Row.same hrow2 fun q hq => T.block q (Row.lt hrow2 q hq).2 (hap2 q hq).1 (hap2 q hq).2,
    hb.trans (T.below hb.size (Nat.le_refl _) fun q hq => ((HeapAt.row hat).lt q hq).1), fun q hq => ⟨(hap q hq).1, key q (Row.lt hrow q hq).2 (hap q hq).2⟩, fun q hq => ⟨(hap2 q hq).1, key q (Row.lt hrow2 q hq).2 (hap2 q hq).2⟩⟩

def EmRel2 (W : World) (Q P : List (Int × Int)) (m b : Nat) (o p i : Value) (wr : World) : Prop :=
  ∃ (k : Nat) (M : List ((Int × Int) × Nat)) (s : Value), i = .int .i64 k ∧ k ≤ m ∧ M.length = m - k ∧ pops (lah tlt) (m - k) M = P.drop k ∧ tAt wr W.heap.size W.heap.size 9 #[] M m s ∧ TRow wr W.heap.size o Q ∧ TRow wr b p P ∧ Below W.heap.size W wr ∧
    (∀ q, o.ownBlock = some q → q ≠ W.heap.size ∧ s.ownBlock ≠ some q) ∧ ∀ q, p.ownBlock = some q → q ≠ W.heap.size ∧ s.ownBlock ≠ some q

set_option maxRecDepth 1000000 in
set_option maxHeartbeats 4000000 in
theorem heapEmpties_walk (x : Option Addr × Nat × List Int) (W : World) (hx : I16At W x.1 x.2.2) :
    Calls Try.prog 5 #[.slice x.1 x.2.2.length x.2.1] W fun e W' => e = .returned (.bool true) ∧ Below W.heap.size W W' := by
  obtain ⟨a, cap, l⟩ := x
  simp only at hx ⊢
  obtain ⟨N, hN⟩ : ∃ N, N = l.length := ⟨_, rfl⟩
  obtain ⟨m, hm⟩ : ∃ m, m = min l.length 150 := ⟨_, rfl⟩
  have hm1 : m ≤ N := by omega
  have hm2 : m ≤ 150 := by omega
  have hmx : ∀ k, k < N → k < 150 → k < m := by omega
  have hmy : ∀ k, k ≤ m → N ≤ k ∨ 150 ≤ k → k = m := by omega
  rw [← hN]
  have HN := Lib.hid hN
  have HX := Lib.hid hx
  have HMX := Lib.hid hmx
  have HMY := Lib.hid hmy
  clear hx hN hm hmx hmy
  go_enter Try.func5, Try.ntmps5
  go_wp2_with fail
  refine (tnew_any _ _ W).mono ?_
  rintro e w1 ⟨rfl, rfl⟩
  have h0 := Lib.hid (show EmRel1 W l m (.slice none 0 0) (.int .i64 0) (W.alloc (.cells #[.func (.func 9) #[] #[], .slice none 0 0, .int .u64 0] 62)) from
    ⟨0, .slice none 0 0, rfl, by omega, tnew_at _ _ _ (Nat.le_refl _), Row.nil_ _ _ _ _, (Below.refl _ _).alloc (Nat.le_refl _) _, by intro q hq; simp [Value.ownBlock] at hq⟩)
  go_wp2_with fail
  go_loopw [4, 5] (fun o i wr => EmRel1 W l m o i wr) (fun _ i _ => 150 - (intOf i).toNat)
  case atStart => exact h0.out
  case round =>
    obtain ⟨k, s, rfl, hk, hat, hrow, hb, hap⟩ := hrel
    by_cases hgo : k < N ∧ k < 150
    · obtain ⟨hkN, hk150⟩ := hgo
      have hk150i : (k : Int) < 150 := by omega
      obtain ⟨ad, ha, c0, cb1, cb2⟩ := HX.out k (by rw [← HN.out]; exact hkN)
      obtain ⟨z, hz⟩ : ∃ z, z = l.getD k default := ⟨_, rfl⟩
      rw [← hz] at c0 cb1 cb2
      subst ha
      have c1 := (hb.cell (block_lt_of_cell c0)).trans c0
      obtain ⟨oa, ocap, ho, _, _⟩ := Row.shape hrow
      rw [ths_length] at ho
      subst ho
      have ht1 : -100 ≤ z.tmod 16 := by have := Int.emod_emod_of_dvd z (by decide : (16 : Int) ∣ 16); rcases Int.le_total 0 z with h | h <;> (first | (rw [Int.tmod_eq_emod_of_nonneg h]; omega) | (have h2 := Int.neg_tmod (a := -z) (b := 16); rw [Int.neg_neg] at h2; rw [h2, Int.tmod_eq_emod_of_nonneg (by omega)]; omega))
      have ht2 : z.tmod 16 ≤ 100 := by rcases Int.le_total 0 z with h | h <;> (first | (rw [Int.tmod_eq_emod_of_nonneg h]; omega) | (have h2 := Int.neg_tmod (a := -z) (b := 16); rw [Int.neg_neg] at h2; rw [h2, Int.tmod_eq_emod_of_nonneg (by omega)]; omega))
      have hkm : k < m := HMX.out k hkN hk150
      have hqs : ths l (k + 1) = ths l k ++ [(z.tmod 16, (k : Int))] := by rw [ths_succ, ← hz]
      have hmid : EmMid W (pushs (lah tlt) [] 0 (ths l k)) k (ths l k) (.slice oa k ocap) wr := ⟨s, hat, hrow, hb, hap⟩
      have HA := Lib.hid (fun (w2 : World) (o' : Value) hr hg ho => em_append (w2 := w2) (o' := o') (x := (z.tmod 16, (k : Int))) (B1 := (wr.alloc (.cells #[.int .i64 (z.tmod 16), .int .i64 k] 26)).alloc (.cells #[.int .i64 (z.tmod 16), .int .i64 k] 26)) hmid (ths_length _ _) (((Below.refl _ _).alloc (Nat.le_refl _) _).alloc (by rw [World.size_alloc]; omega) _) hr hg ho)
      have hrow1 : Row wr W.heap.size 26 2 (.slice oa k ocap) k (tS (ths l k)) := by have h := hrow; unfold TRow at h; rw [ths_length] at h; exact h
      have hQS := Lib.hid hqs
      have HPP := Lib.hid (show ∀ V (o' : Value), EmMid W (up (lah tlt) (pushs (lah tlt) [] 0 (ths l k)).length (pushs (lah tlt) [] 0 (ths l k) ++ [((z.tmod 16, (k : Int)), k)])) (k + 1) (ths l k ++ [(z.tmod 16, (k : Int))]) o' V → EmRel1 W l m o' (.int .i64 ((k : Int) + 1)) V from fun V o' h => by
        obtain ⟨s', h1, h2, h3, h4⟩ := h
        rw [← hqs] at h2
        refine ⟨k + 1, s', by go_num, by omega, ?_, h2, h3, h4⟩
        rw [hqs, pushs_snoc, ths_length, Nat.zero_add]
        exact h1)
      have hszr := hb.size
      have hpl : (pushs (lah tlt) [] 0 (ths l k)).length < 1000000 := by rw [pushs_length, ths_length]; simp; omega
      have HBR := Lib.hid hb
      clear hz hat hrow hb hap hqs hmid cb1 cb2 c0
      obtain ⟨i0, hi, hz0, hz1, hz2⟩ := info_parts infoTh
      go_wp2_with (at_builtin; refine wpList_append_row _ rfl (.tmp 36) (.tmp 38) 28 rfl W.heap.size 26 i0 (.agg #[.int .i64 0, .int .i64 0]) 2 16 Try.underlying28 hi hz0 hz1 hz2 rfl (by decide) (.slice oa k ocap) k (tS (ths l k)) rfl (Row.alloc (Row.alloc hrow1 _) _) ⟨wr.heap.size + 1, 0, none⟩ 1 1 (tS [(z.tmod 16, (k : Int))]) rfl rfl ?c1 tS_one ?c3 ?c4 ?c5 ?_)
      case c1 => have h := cell_two_new (wr.alloc (.cells #[.int .i64 (z.tmod 16), .int .i64 k] 26)) (.int .i64 (z.tmod 16)) (.int .i64 k) 26; rw [World.size_alloc] at h; exact h
      case c3 => unfold maxLen; omega
      case c4 => omega
      case c5 => rw [World.size_alloc, World.size_alloc]; omega
      intro v2 w2 hrow2 hg2 _ ho2
      have hbx : w2.heap[wr.heap.size]? = some (.cells #[.int .i64 (z.tmod 16), .int .i64 k] 26 (0, 0)) := by
        rw [hg2.block wr.heap.size (by rw [World.size_alloc, World.size_alloc]; omega) (fun e => by have := (hrow1.lt _ e.symm).2; omega)]
        exact heap_alloc2_old _ _ _
      have x0 := cell_of_row _ _ 0 _ _ _ hbx
      have x1 := cell_of_row _ _ 1 _ _ _ hbx
      simp only [List.getElem?_toArray, List.getElem?_cons_zero, List.getElem?_cons_succ] at x0 x1
      have hm2' := HA.out w2 v2 hrow2 hg2 (by rw [World.size_alloc, World.size_alloc]; exact ho2)
      have HM2 := Lib.hid hm2'
      obtain ⟨s2, hat2, hr2, hb2, hap2⟩ := hm2'
      have HC := Lib.hid (tpush_any (tOrder W.heap.size) (pushs (lah tlt) [] 0 (ths l k)) s2 (z.tmod 16, (k : Int)) w2 hb2.size hat2 trivial (fun _ _ => trivial) trivial hpl (by omega))
      have HE := Lib.hid (fun V hp => HPP.out V v2 (em_push (V := V) hat2 hr2 hb2 hap2 hp))
      clear hbx hrow2 hg2 ho2 hat2 hr2 hb2 hap2 hrow1 hpl hi hz0 hz1 hz2
      go_wp2_with fail
      refine HC.out.mono ?_
      rintro e V ⟨rfl, hp⟩
      have HV := Lib.hid (HE.out V hp)
      clear hp
      go_wp2_with fail
      go_roundw
      case rel => first | exact HV.out | ((repeat apply Exists.intro); exact ⟨HV.out, rfl⟩)
      case measure => simp [intOf]; omega
    · have hex : N ≤ k ∨ (k < N ∧ 150 ≤ (k : Int)) := by omega
      have hkm : k = m := HMY.out k hk (by omega)
      subst hkm
      obtain ⟨oa, ocap, ho, _, _⟩ := Row.shape hrow
      rw [ths_length] at ho
      subst ho
      obtain ⟨P, hP⟩ : ∃ P, P = tSorted tlt (ths l k) := ⟨_, rfl⟩
      have hPs : P = sel tkey k (ths l k) := by rw [hP, tSorted_sel, ths_length]
      have hPl : P.length = k := by rw [hPs, sel_length]
      have hso := tsort_any (tOrder W.heap.size) (ths l k) _ wr hb.size hrow trivial (fun _ _ => trivial) (by rw [ths_length]; omega)
      rw [← hP] at hso
      have HS := Lib.hid hso
      have hpops : pops (lah tlt) k (pushs (lah tlt) [] 0 (ths l k)) = P := by rw [hP, tSorted, ths_length]
      have hplen : (pushs (lah tlt) [] 0 (ths l k)).length = k := by rw [pushs_length, ths_length]; simp
      have HR := Lib.hid (show ∀ (V : World) (p : Value), TRow V wr.heap.size p P → Below wr.heap.size wr V → EmRel2 W (ths l k) P k wr.heap.size (.slice oa k ocap) p (.int .i64 0) V from fun V p hp hV =>
        ⟨0, _, s, rfl, by omega, hplen, by rw [Nat.sub_zero]; exact hpops, HeapAt.later hat hV, Row.later hrow hV, hp, hb.trans (hV.mono hb.size), hap, fun q hq => by
          have h1 := (Row.lt hp q hq).1
          exact ⟨by have := HeapAt.lt hat; omega, fun e => by have := ((HeapAt.row hat).lt _ e).2; omega⟩⟩)
      have HPS := Lib.hid hPs
      have HPL := Lib.hid hPl
      clear hgo hat hrow hb hap hso hpops hplen hP hPs hPl
      obtain ⟨wo, rfl⟩ : ∃ wo : World, wo = wr := ⟨_, rfl⟩
      rcases hex with hx | ⟨hx, hx'⟩
      all_goals
        go_wp2_with fail
        refine HS.out.mono ?_
        rintro e V hp
        obtain ⟨p, rfl, hpr, hpb⟩ := hp
        have HV := Lib.hid (HR.out V p hpr hpb)
        obtain ⟨pa, pc, hpe, _, _⟩ := Row.shape hpr
        rw [HPL.out] at hpe
        subst hpe
        clear hpr hpb
        go_wp2_with fail
        go_loopw [8] (fun i wr => EmRel2 W (ths l k) P k wo.heap.size (.slice oa k ocap) (.slice pa k pc) i wr) (fun i _ => k - (intOf i).toNat)
        case atStart => exact HV.out
        case round =>
          obtain ⟨j, M, s2, rfl, hj, hM, hpp, hat2, hr2, hp2, hb2, hap2, hap3⟩ := hrel
          by_cases hjk : j < k
          · have hjP : j < P.length := by rw [HPL.out]; exact hjk
            obtain ⟨y, hy⟩ : ∃ y, y = P.getD j default := ⟨_, rfl⟩
            have hyP : y ∈ P := by rw [hy, List.getD_eq_getElem?_getD, List.getElem?_eq_getElem hjP]; exact List.getElem_mem hjP
            obtain ⟨hord, hmem⟩ := sel_ordd k (ths l k) (ths_length _ _) (ths_age _ _)
            rw [← HPS.out] at hord hmem
            obtain ⟨i, hik, hyi⟩ : ∃ i : Nat, i < k ∧ y = (ths l k).getD i default := by
              obtain ⟨i, hi, he⟩ := List.getElem_of_mem (hmem y hyP)
              exact ⟨i, by rw [ths_length] at hi; exact hi, by rw [← he]; simp [List.getD_eq_getElem?_getD, hi]⟩
            have hyg := ths_get (xs := l) (m := k) hik
            obtain ⟨y1, hy1⟩ : ∃ y1, y1 = (l.getD i default).tmod 16 := ⟨_, rfl⟩
            rw [← hy1] at hyg
            have hye : y = (y1, (i : Int)) := hyi.trans hyg
            have hpp' := hpp
            rw [drop_cons hjP, ← hy, show k - j = (k - (j + 1)) + 1 from by omega, hye] at hpp'
            obtain ⟨hgv, hpn⟩ := pops_step hpp'
            have hpk := tpeek_yes wr hat2 (by omega)
            rw [hgv] at hpk
            have HPK := Lib.hid hpk
            have HPO := Lib.hid (show ∀ X1 : World, Below wr.heap.size wr X1 → Calls Try.prog 12 #[.pointer (some ⟨W.heap.size, 0, none⟩)] X1 fun e W' => e = .returned (.tuple #[.agg #[.int .i64 y1, .int .i64 i], .bool true]) ∧ tPopped tlt X1 W.heap.size W.heap.size 9 #[] M k s2 W' from fun X1 hX => by
              have h := tpop_yes (tOrder W.heap.size) M s2 X1 (Nat.le_trans hb2.size hX.size) (HeapAt.later hat2 hX) trivial (fun _ _ => trivial) (by omega) (by omega)
              rw [hgv] at h
              exact h)
            have HEP := Lib.hid (fun (X1 V2 : World) (hX : Below wr.heap.size wr X1) hp => em_pop (V := V2) (HeapAt.later hat2 hX) (Row.later hr2 hX) (Row.later hp2 hX) (hb2.trans (hX.mono hb2.size)) hap2 hap3 hp)
            have HKB := Lib.hid (show ∀ (X1 V2 : World), Below wr.heap.size wr X1 → tPopped tlt X1 W.heap.size W.heap.size 9 #[] M k s2 V2 → X1.heap.size ≤ V2.heap.size ∧ ∀ q, wr.heap.size ≤ q → q < X1.heap.size → V2.heap[q]? = X1.heap[q]? from fun X1 V2 hX hp => by
              obtain ⟨s', _, T⟩ := hp
              exact ⟨T.size, fun q hq hq2 => T.block q hq2 (by have := HeapAt.lt hat2; omega) fun e => by have := ((HeapAt.row hat2).lt _ e).2; omega⟩)
            have hpl := popL_length (lah tlt) (L := M) (by omega)
            have HRR := Lib.hid (show ∀ (V2 X2 : World), (∃ s', tAt V2 W.heap.size W.heap.size 9 #[] (popL (lah tlt) M) k s' ∧ TRow V2 W.heap.size (.slice oa k ocap) (ths l k) ∧ TRow V2 wo.heap.size (.slice pa k pc) P ∧ Below W.heap.size W V2 ∧ (∀ q, (Value.slice oa k ocap).ownBlock = some q → q ≠ W.heap.size ∧ s'.ownBlock ≠ some q) ∧ ∀ q, (Value.slice pa k pc).ownBlock = some q → q ≠ W.heap.size ∧ s'.ownBlock ≠ some q) → Below V2.heap.size V2 X2 → EmRel2 W (ths l k) P k wo.heap.size (.slice oa k ocap) (.slice pa k pc) (.int .i64 ((j : Int) + 1)) X2 from fun V2 X2 h hX => by
              obtain ⟨s', e1, e2, e3, e4, e5, e6⟩ := h
              exact ⟨j + 1, popL (lah tlt) M, s', by go_num, by omega, by omega, hpn, HeapAt.later e1 hX, Row.later e2 hX, Row.later e3 hX, e4.trans (hX.mono e4.size), e5, e6⟩)
            have HYQ := Lib.hid hyg
            have HYP := Lib.hid (show P.getD j default = (y1, (i : Int)) by rw [← hy]; exact hye)
            have HORD := Lib.hid hord
            have hd1 : decide (k ≤ i) = false := decide_eq_false (by omega)
            have hd2 : decide ((k : Int) ≤ (i : Int)) = false := decide_eq_false (by omega)
            have hd3 : decide ((i : Int) < 0) = false := decide_eq_false (by omega)
            clear hy hyP hord hmem hyi hy1 hyg hye hpp hpp' hgv hpn hpk hat2 hr2 hp2 hb2 hap2 hap3 hM hpl
            go_wp2_with fail
            refine HPK.out.mono ?_
            rintro e V1 ⟨rfl, hv1⟩
            obtain ⟨X1, hX1⟩ : ∃ X1, X1 = V1.alloc (.cells #[.int .i64 y1, .int .i64 i] 26) := ⟨_, rfl⟩
            have hx1 : Below wr.heap.size wr X1 := by rw [hX1]; exact hv1.alloc hv1.size _
            have h9 : X1.heap[V1.heap.size]? = some (.cells #[.int .i64 y1, .int .i64 i] 26 (0, 0)) := by rw [hX1]; exact heap_alloc_new _ _
            have hz9 : V1.heap.size < X1.heap.size := by rw [hX1, World.size_alloc]; omega
            have hw9 : wr.heap.size ≤ V1.heap.size := hv1.size
            have HX1 := Lib.hid hX1
            have HB1 := Lib.hid hx1
            clear hX1 hx1 hv1
            go_wp2_with fail
            rw [← HX1.out]
            refine (HPO.out X1 HB1.out).mono ?_
            rintro e V2 ⟨rfl, hpd⟩
            obtain ⟨X2, hX2⟩ : ∃ X2, X2 = V2.alloc (.cells #[.int .i64 y1, .int .i64 i] 26) := ⟨_, rfl⟩
            have hx2 : Below V2.heap.size V2 X2 := by rw [hX2]; exact (Below.refl _ _).alloc (Nat.le_refl _) _
            have h11 : X2.heap[V2.heap.size]? = some (.cells #[.int .i64 y1, .int .i64 i] 26 (0, 0)) := by rw [hX2]; exact heap_alloc_new _ _
            obtain ⟨hk1, hk2⟩ := HKB.out X1 V2 HB1.out hpd
            have h9' : X2.heap[V1.heap.size]? = some (.cells #[.int .i64 y1, .int .i64 i] 26 (0, 0)) := by rw [hx2.block _ (by omega), hk2 _ hw9 hz9]; exact h9
            have b0 := cell_of_row _ _ 0 _ _ _ h9'
            have b1 := cell_of_row _ _ 1 _ _ _ h9'
            have d0 := cell_of_row _ _ 0 _ _ _ h11
            have d1 := cell_of_row _ _ 1 _ _ _ h11
            simp only [List.getElem?_toArray, List.getElem?_cons_zero, List.getElem?_cons_succ] at b0 b1 d0 d1
            have hem := HEP.out X1 V2 HB1.out hpd
            have HRL := Lib.hid (fun X3 (h3 : Below X2.heap.size X2 X3) => HRR.out V2 X3 hem (hx2.trans (h3.mono hx2.size)))
            obtain ⟨s3, e1, e2, e3, e4⟩ := hem
            obtain ⟨g1, c1', he1, f1, f2, f3, f4, hc1, f5⟩ := (Row.later e2 hx2).form (by rw [ths_length]; omega)
            simp only [Value.slice.injEq] at he1
            obtain ⟨rfl, hk1', rfl⟩ := he1
            obtain ⟨g2, c2', he2, f6, f7, f8, f9, hc2, f10⟩ := (Row.later e3 hx2).form (by omega)
            simp only [Value.slice.injEq] at he2
            obtain ⟨rfl, hk2', rfl⟩ := he2
            clear hk1' hk2' f1 f2 f3 f4 f5 f6 f7 f8 f9 f10 e1 e4
            have ti := tS_get (l := ths l k) (i := i) (by rw [ths_length]; exact hik)
            rw [HYQ.out] at ti
            have tp := tS_get (l := P) hjP
            rw [HYP.out] at tp
            have q0 := (hc1 _ (by rw [ths_length]; omega)).trans ti.1
            have q1 := (hc1 _ (by rw [ths_length]; omega)).trans ti.2
            have p0 := (hc2 _ (by omega)).trans tp.1
            have p1 := (hc2 _ (by omega)).trans tp.2
            have HC2 := Lib.hid hc2
            have HX2 := Lib.hid hX2
            have hjPP := Lib.hid hjP
            clear hc1 hc2 ti tp e2 e3 h9 h9' h11 hX2 hpd hx2 hk1 hk2 hjP
            go_wp2_with fail
            rw [← HX2.out]
            refine wp_region_ord [(0, true), (1, true), (2, true), (3, true), (4, true), (5, true), (6, true), (7, true), (8, true), (9, true), (10, true), (11, true), (12, true), (13, true), (14, true), (15, true), (16, true), (17, true), (18, true), (19, true), (20, true), (21, true), (22, true), (23, true), (24, true), (25, true), (26, true), (27, true), (28, true), (29, true), (30, true), (31, true), (32, true), (33, true), (34, true), (35, true), (36, true), (37, true), (38, true), (39, true)] (fun V => V = X2.drew) (by kernel_rfl) (by kernel_rfl) (by decide) (by kernel_rfl) (fun d _ _ _ _ h => by cases d <;> exact h) rfl ?_
            iterate 40 ((apply wpOrd_take rfl rfl (by kernel_rfl); (intro V hV; subst hV; go_simp; rfl)); (try simp only [List.setIfInBounds_toArray, List.set_cons_succ, List.set_cons_zero]))
            refine wpOrd_nil ?_
            by_cases hj0 : j = 0
            · subst hj0
              go_wp2_with fail
              refine wp_region_ord [(0, true), (1, true), (2, true), (3, true), (4, true), (5, true), (6, true), (7, true), (8, true), (9, true), (10, true), (11, true), (12, true), (13, true), (14, true), (15, true), (16, true), (17, true), (18, true), (19, true), (20, true), (21, true), (22, true), (23, true), (24, true), (25, true), (26, true), (27, true), (28, true), (29, true), (30, true), (31, true), (32, true), (33, true), (34, true)] (fun V => V = X2.drewN 2) (by kernel_rfl) (by kernel_rfl) (by decide) (by kernel_rfl) (fun d _ _ _ _ h => by cases d <;> exact h) rfl ?_
              iterate 3 ((apply wpOrd_take rfl rfl (by kernel_rfl); (intro V hV; subst hV; go_simp; rfl)); (try simp only [List.setIfInBounds_toArray, List.set_cons_succ, List.set_cons_zero]))
              iterate 31 ((apply wpOrd_skip rfl rfl (by kernel_rfl)); (try simp only [List.setIfInBounds_toArray, List.set_cons_succ, List.set_cons_zero]))
              iterate 1 ((apply wpOrd_take rfl rfl (by kernel_rfl); (intro V hV; subst hV; go_simp; rfl)); (try simp only [List.setIfInBounds_toArray, List.set_cons_succ, List.set_cons_zero]))
              refine wpOrd_nil ?_
              go_wp2_with fail
              go_roundw
              case rel => first | exact HRL.out _ ⟨rfl, rfl, rfl, Nat.le_refl _, fun _ _ => rfl⟩ | ((repeat apply Exists.intro); exact ⟨HRL.out _ ⟨rfl, rfl, rfl, Nat.le_refl _, fun _ _ => rfl⟩, rfl⟩)
              case measure => simp [intOf]; omega
            · obtain ⟨jm, hjm⟩ : ∃ jm : Nat, j = jm + 1 := ⟨j - 1, by omega⟩
              subst hjm
              have hjmP : jm < P.length := by have := hjPP.out; omega
              obtain ⟨p, hpe⟩ : ∃ p, p = P.getD jm default := ⟨_, rfl⟩
              have hoo : ordd p (y1, (i : Int)) := by
                have h := List.pairwise_iff_getElem.1 HORD.out jm (jm + 1) hjmP hjPP.out (by omega)
                have e1 : P.getD jm default = P[jm] := by simp [List.getD_eq_getElem?_getD, hjmP]
                have e2 : P.getD (jm + 1) default = P[jm + 1]'hjPP.out := by simp [List.getD_eq_getElem?_getD, hjPP.out]
                rw [← e1, ← e2, HYP.out, ← hpe] at h
                exact h
              have tm := tS_get (l := P) hjmP
              rw [← hpe] at tm
              have m0 := (HC2.out _ (by omega)).trans tm.1
              have m1 := (HC2.out _ (by omega)).trans tm.2
              have hjmi : ((jm : Nat) : Int) + 1 - 1 = (jm : Int) := by omega
              have hjmk : jm < k := by omega
              have hwj : IntKind.i64.wrap (jm : Int) = (jm : Int) := IntWalk.i64_in _ (by omega)
              obtain ⟨p1', p2'⟩ := p
              unfold ordd at hoo
              simp only at hoo m0 m1
              clear tm hpe
              rcases hoo with ho1 | ⟨ho1, ho2⟩
              · have ho3 : (p1' == y1) = false := by rw [beq_eq_false_iff_ne]; omega
                have ho4 : decide (y1 < p1') = false := decide_eq_false (by omega)
                go_wp2_with fail
                refine wp_region_ord [(0, true), (1, true), (2, true), (3, true), (4, true), (5, true), (6, true), (7, true), (8, true), (9, true), (10, true), (11, true), (12, true), (13, true), (14, true), (15, true), (16, true), (17, true), (18, true), (19, true), (20, true), (21, true), (22, true), (23, true), (24, true), (25, true), (26, true), (27, true), (28, true), (29, true), (30, true), (31, true), (32, true), (33, true), (34, true)] (fun V => V = X2.drewN 2) (by kernel_rfl) (by kernel_rfl) (by decide) (by kernel_rfl) (fun d _ _ _ _ h => by cases d <;> exact h) rfl ?_
                iterate 23 ((apply wpOrd_take rfl rfl (by kernel_rfl); (intro V hV; subst hV; go_simp; rfl)); (try simp only [List.setIfInBounds_toArray, List.set_cons_succ, List.set_cons_zero]))
                iterate 9 ((apply wpOrd_skip rfl rfl (by kernel_rfl)); (try simp only [List.setIfInBounds_toArray, List.set_cons_succ, List.set_cons_zero]))
                iterate 3 ((apply wpOrd_take rfl rfl (by kernel_rfl); (intro V hV; subst hV; go_simp; rfl)); (try simp only [List.setIfInBounds_toArray, List.set_cons_succ, List.set_cons_zero]))
                refine wpOrd_nil ?_
                go_wp2_with fail
                go_roundw
                case rel => first | exact HRL.out _ ⟨rfl, rfl, rfl, Nat.le_refl _, fun _ _ => rfl⟩ | ((repeat apply Exists.intro); exact ⟨HRL.out _ ⟨rfl, rfl, rfl, Nat.le_refl _, fun _ _ => rfl⟩, rfl⟩)
                case measure => simp [intOf]; omega
              · subst ho1
                have ho4 : decide ((i : Int) ≤ p2') = false := decide_eq_false (by omega)
                go_wp2_with fail
                refine wp_region_ord [(0, true), (1, true), (2, true), (3, true), (4, true), (5, true), (6, true), (7, true), (8, true), (9, true), (10, true), (11, true), (12, true), (13, true), (14, true), (15, true), (16, true), (17, true), (18, true), (19, true), (20, true), (21, true), (22, true), (23, true), (24, true), (25, true), (26, true), (27, true), (28, true), (29, true), (30, true), (31, true), (32, true), (33, true), (34, true)] (fun V => V = X2.drewN 2) (by kernel_rfl) (by kernel_rfl) (by decide) (by kernel_rfl) (fun d _ _ _ _ h => by cases d <;> exact h) rfl ?_
                iterate 35 ((apply wpOrd_take rfl rfl (by kernel_rfl); (intro V hV; subst hV; go_simp; rfl)); (try simp only [List.setIfInBounds_toArray, List.set_cons_succ, List.set_cons_zero]))
                refine wpOrd_nil ?_
                go_wp2_with fail
                go_roundw
                case rel => first | exact HRL.out _ ⟨rfl, rfl, rfl, Nat.le_refl _, fun _ _ => rfl⟩ | ((repeat apply Exists.intro); exact ⟨HRL.out _ ⟨rfl, rfl, rfl, Nat.le_refl _, fun _ _ => rfl⟩, rfl⟩)
                case measure => simp [intOf]; omega
          · have hjk' : j = k := by omega
            subst hjk'
            have hM0 : M = [] := List.eq_nil_of_length_eq_zero (by omega)
            subst hM0
            have HB2 := Lib.hid hb2
            have HPN := Lib.hid (tpop_no wr hat2)
            have HLN := Lib.hid (fun X (hX : Below wr.heap.size wr X) => tlen_any X (HeapAt.later hat2 hX))
            clear hpp hat2 hr2 hp2 hb2 hap2 hap3 hM hj
            go_wp2_with fail
            refine HPN.out.mono ?_
            rintro e V ⟨rfl, hv⟩
            have hv2 := hv.alloc hv.size (.cells #[.int .i64 0, .int .i64 0] 26)
            have HL2 := Lib.hid (HLN.out _ hv2)
            have HV2 := Lib.hid (HB2.out.trans (hv2.mono HB2.out.size))
            clear hv hv2
            go_wp2_with fail
            refine HL2.out.mono ?_
            rintro e w9 ⟨rfl, rfl⟩
            go_wp2_with fail
            refine (works_any _).mono ?_
            rintro e w8 ⟨rfl, hb8⟩
            go_wp2_with fail
            go_ret
            exact ⟨rfl, HV2.out.trans (hb8.mono HV2.out.size)⟩

end Go.Proofs.Ytbigglcolfbglaa
