/- The walk of the law HeapPlays. -/
import Derived.Test.YtbigglcolfbglaaHeapN
import Derived.Outline
set_option linter.unusedSimpArgs false
set_option linter.unusedVariables false
namespace Go.Proofs.Ytbigglcolfbglaa
open Go.RowKit

/-- What holds at each round's head. -/
def PlaysRel (W : World) (m : Nat) (o i : Value) (wr : World) : Prop :=
  ∃ (k n : Nat) (L I : List ((Int × Int) × Nat)) (s : Value), i = .int .i64 k ∧ k ≤ m ∧ k ≤ 300 ∧ n ≤ k ∧ I.length ≤ n ∧ St tkey L I n ∧ tAt wr W.heap.size W.heap.size 9 #[] L n s ∧ TRow wr W.heap.size o (I.map (·.1)) ∧ Below W.heap.size W wr ∧
    ∀ q, o.ownBlock = some q → q ≠ W.heap.size ∧ s.ownBlock ≠ some q
/-- What holds behind what was done in a round. -/
def PlaysMid (W : World) (k : Nat) (o : Value) (wr : World) : Prop :=
  ∃ (n : Nat) (L I : List ((Int × Int) × Nat)) (s : Value), n ≤ k + 1 ∧ I.length ≤ n ∧ St tkey L I n ∧ tAt wr W.heap.size W.heap.size 9 #[] L n s ∧ TRow wr W.heap.size o (I.map (·.1)) ∧ Below W.heap.size W wr ∧
    ∀ q, o.ownBlock = some q → q ≠ W.heap.size ∧ s.ownBlock ≠ some q

theorem mid_use {W V : World} {m k : Nat} {o : Value} (hk : k < m) (hk3 : k < 300) (h : PlaysMid W k o V) :
    ∃ (oa : Option Addr) (c ocap : Nat), o = .slice oa c ocap ∧ c < 1000 ∧ Calls Try.prog 15 #[.pointer (some ⟨W.heap.size, 0, none⟩)] V (fun e W' => e = .returned (.int .i64 c) ∧ V = W') ∧ PlaysRel W m o (.int .i64 ((k : Int) + 1)) V := by
  obtain ⟨n, L, I, s, hn, hI, hst, hat, hrow, hb, hap⟩ := h
  obtain ⟨oa, ocap, ho, _, _⟩ := Row.shape hrow
  have hl : L.length = (I.map (·.1)).length := by rw [List.length_map, hst.perm.length_eq]
  refine ⟨oa, _, ocap, ho, by rw [List.length_map]; omega, ?_, k + 1, n, L, I, s, by go_num, by omega, by omega, hn, hI, hst, hat, hrow, hb, hap⟩
  rw [← hl]
  exact tlen_any V hat

/-- A push, and the list that goes with it. -/
theorem mid_push {W w2 V B1 W' : World} {k n : Nat} {L I : List ((Int × Int) × Nat)} {s o o' : Value} {v : Int × Int} (hn : n ≤ k) (hI : I.length ≤ n) (hst : St tkey L I n) (hat : tAt w2 W.heap.size W.heap.size 9 #[] L n s) (hrow : TRow w2 W.heap.size o (I.map (·.1))) (hb : Below W.heap.size W w2)
    (hap : ∀ q, o.ownBlock = some q → q ≠ W.heap.size ∧ s.ownBlock ≠ some q) (hp : tPushed tlt w2 W.heap.size W.heap.size 9 #[] L v n s V) (hB1 : Below V.heap.size V B1)
    (hrow' : Row W' W.heap.size 26 2 o' ((I.map (·.1)).length + 1) (tS (I.map (·.1)) ++ tS [v])) (hg : B1.grownBy W' o.ownBlock) (ho : o'.ownBlock = o.ownBlock ∨ o'.ownBlock = some B1.heap.size) : PlaysMid W k o' W' := by
  obtain ⟨s', hat', T⟩ := hp
  have hbV : Below W.heap.size W V := hb.trans (T.below hb.size (Nat.le_refl _) fun q hq => ((HeapAt.row hat).lt q hq).1)
  have hbB := hbV.trans (hB1.mono hbV.size)
  have hapV : ∀ q, o.ownBlock = some q → q ≠ W.heap.size ∧ s'.ownBlock ≠ some q := fun q hq => by
    obtain ⟨h1, h2⟩ := hap q hq
    refine ⟨h1, fun e => ?_⟩
    rcases T.own with e' | ⟨k', e', hk'⟩
    · exact h2 (e' ▸ e)
    · rw [e'] at e; simp only [Option.some.injEq] at e; have := (Row.lt hrow q hq).2; omega
  have hatB := HeapAt.later hat' hB1
  refine ⟨n + 1, up (kah tkey) L.length (L ++ [(v, n)]), I ++ [(v, n)], s', by omega, by simp; omega, hst.push v, ?_, ?_, hbB.grown hg hbB.size fun q hq => (Row.lt hrow q hq).1, ?_⟩
  · rw [← lah_key]
    exact HeapAt.same hatB (hg.block _ hatB.lt fun e => (hapV _ e.symm).1 rfl) fun q hq => hg.block q (hatB.row.lt q hq).2 fun e => (hapV q e.symm).2 hq
  · unfold TRow
    rw [List.map_append, tS_append, List.length_append]
    exact hrow'
  · intro q hq
    rcases ho with e | e
    · exact hapV q (e ▸ hq)
    · rw [e] at hq
      simp only [Option.some.injEq] at hq
      subst hq
      exact ⟨by have := hatB.lt; omega, fun e' => by have := (hatB.row.lt _ e').2; omega⟩

/-- A pop, and the list that goes with it. -/
theorem mid_pop {W w2 V B1 W' : World} {k n a : Nat} {L I : List ((Int × Int) × Nat)} {s o' : Value} (hn : n ≤ k) (hI : I.length ≤ n) (hat : tAt w2 W.heap.size W.heap.size 9 #[] L n s) (hb : Below W.heap.size W w2)
    (hst' : St tkey (popL (kah tkey) L) (I.eraseIdx a) n) (hp : tPopped tlt w2 W.heap.size W.heap.size 9 #[] L n s V) (hB1 : Below V.heap.size V B1) (hw : WithoutPost B1 ((I.map (·.1)).eraseIdx a) (.returned o') W') : PlaysMid W k o' W' := by
  obtain ⟨s', hat', T⟩ := hp
  obtain ⟨v', he, hr, hbw⟩ := hw
  simp only [Ending.returned.injEq] at he
  subst he
  have hbV : Below W.heap.size W V := hb.trans (T.below hb.size (Nat.le_refl _) fun q hq => ((HeapAt.row hat).lt q hq).1)
  have hbB := hbV.trans (hB1.mono hbV.size)
  have hatB := HeapAt.later hat' hB1
  refine ⟨n, popL (kah tkey) L, I.eraseIdx a, s', by omega, by rw [List.length_eraseIdx]; split <;> omega, hst', ?_, ?_, hbB.trans (hbw.mono hbB.size), fun q hq => ?_⟩
  · rw [← lah_key]
    exact HeapAt.later hatB hbw
  · rw [map_eraseIdx]
    exact Row.more hr hbB.size
  · have h1 := (Row.lt hr q hq).1
    exact ⟨by have := hatB.lt; omega, fun e' => by have := (hatB.row.lt _ e').2; omega⟩

theorem mid_same {W V W' : World} {k n : Nat} {L I : List ((Int × Int) × Nat)} {s o : Value} (hn : n ≤ k) (hI : I.length ≤ n) (hst : St tkey L I n) (hat : tAt V W.heap.size W.heap.size 9 #[] L n s) (hrow : TRow V W.heap.size o (I.map (·.1))) (hb : Below W.heap.size W V)
    (hap : ∀ q, o.ownBlock = some q → q ≠ W.heap.size ∧ s.ownBlock ≠ some q) (hbw : Below V.heap.size V W') : PlaysMid W k o W' :=
  ⟨n, L, I, s, by omega, hI, hst, HeapAt.later hat hbw, Row.later hrow hbw, hb.trans (hbw.mono hb.size), hap⟩

set_option maxRecDepth 100000 in
set_option maxHeartbeats 4000000 in
theorem heapPlays_walk (x : Option Addr × Nat × List (Int × Int × Int)) (W : World) (hx : ActsAt W x.1 x.2.2) :
    Calls Try.prog 3 #[.slice x.1 x.2.2.length x.2.1] W fun e W' => e = .returned (.bool true) ∧ Below W.heap.size W W' := by
  obtain ⟨a, cap, l⟩ := x
  simp only at hx ⊢
  obtain ⟨N, hN⟩ : ∃ N, N = l.length := ⟨_, rfl⟩
  rw [← hN]
  have HN := Lib.hid hN
  have HX := Lib.hid hx
  clear hx hN
  go_enter Try.func3, Try.ntmps3
  go_wp2_with fail
  refine (tnew_any _ _ W).mono ?_
  rintro e w1 ⟨rfl, rfl⟩
  have h0 := Lib.hid (show PlaysRel W N (.slice none 0 0) (.int .i64 0) (W.alloc (.cells #[.func (.func 9) #[] #[], .slice none 0 0, .int .u64 0] 62)) from
    ⟨0, 0, [], [], .slice none 0 0, rfl, by omega, by omega, by omega, by simp, St.nil, tnew_at _ _ _ (Nat.le_refl _), Row.nil_ _ _ _ _, (Below.refl _ _).alloc (Nat.le_refl _) _, by intro q hq; simp [Value.ownBlock] at hq⟩)
  go_wp2_with fail
  go_loopw [4, 5] (fun o i wr => PlaysRel W N o i wr) (fun _ i _ => 300 - (intOf i).toNat)
  case atStart => exact h0.out
  case round =>
    obtain ⟨k, n, L, I, s, rfl, hk, hk3, hn, hI, hst, hat, hrow, hb, hap⟩ := hrel
    by_cases hgo : k < N ∧ k < 300
    · obtain ⟨hkN, hk300⟩ := hgo
      obtain ⟨ad, ha, c0, c1, c2⟩ := HX.out k (by rw [← HN.out]; exact hkN)
      obtain ⟨w0, hw0⟩ : ∃ w0, w0 = (l.getD k default).1 := ⟨_, rfl⟩
      obtain ⟨y, hy⟩ : ∃ y, y = (l.getD k default).2 := ⟨_, rfl⟩
      rw [← hw0] at c0
      rw [← hy] at c1 c2
      obtain ⟨ML, hML⟩ : ∃ ML, ML = I.map (·.1) := ⟨_, rfl⟩
      have hMLl : ML.length ≤ k := by rw [hML, List.length_map]; omega
      obtain ⟨oa, ocap, ho, hoc1, hoc2⟩ := Row.shape hrow
      rw [← hML] at hrow ho hoc1
      subst ho
      have hLI : L.length = ML.length := by rw [hML, List.length_map, hst.perm.length_eq]
      have HL := Lib.hid (least_any wr W.heap.size _ ML hrow (by omega))
      -- what the least is
      have hls : (L = [] ∧ ML = [] ∧ lsA tkey ML ML.length = -1) ∨ (0 < L.length ∧ ∃ a : Nat, a < ML.length ∧ lsA tkey ML ML.length = (a : Int) ∧ ML.getD a default = (g L 0).1 ∧ St tkey (popL (kah tkey) L) (I.eraseIdx a) n) := by
        by_cases hL0 : L.length = 0
        · left
          have e1 : L = [] := List.eq_nil_of_length_eq_zero hL0
          have e2 : ML = [] := List.eq_nil_of_length_eq_zero (by omega)
          exact ⟨e1, e2, by rw [e2]; rfl⟩
        · right
          obtain ⟨a, hf, hs, hst'⟩ := hst.first (by omega)
          obtain ⟨b, hb, hfb⟩ := lsA_first (key := tkey) (l := ML) (by omega)
          rw [← hML] at hf
          obtain rfl := firstLeast_one hf hfb
          refine ⟨by omega, a, hf.1, hb, ?_, hst'⟩
          have hal : a < I.length := by have := hf.1; rw [hML, List.length_map] at this; exact this
          rw [List.getElem?_eq_getElem hal] at hs
          simp only [Option.some.injEq] at hs
          rw [hML]
          simp [List.getD_eq_getElem?_getD, hal, hs]
      have cells : ∀ V, Below W.heap.size W V → V.cell? (ad.add (k * 3)) = some (.int .i64 w0) ∧ V.cell? ⟨(ad.add (k * 3)).block, (ad.add (k * 3)).off + 1, none⟩ = some (.int .i64 y.1) ∧ V.cell? ⟨(ad.add (k * 3)).block, (ad.add (k * 3)).off + 1 + 1, none⟩ = some (.int .i64 y.2) := fun V hV =>
        ⟨(hV.cell (block_lt_of_cell c0)).trans c0, by rw [← add_field ad _ 1 (by omega)]; exact (hV.cell (block_lt_of_cell c1)).trans c1, by rw [Nat.add_assoc, ← add_field ad _ 2 (by omega)]; exact (hV.cell (block_lt_of_cell c2)).trans c2⟩
      have CF := Lib.hid cells
      subst ha
      obtain ⟨z, hz⟩ : ∃ z, z = lsA tkey ML ML.length := ⟨_, rfl⟩
      rw [← hz] at HL hls
      have HMLq := Lib.hid hML
      have hk300i : (k : Int) < 300 := by omega
      clear hz cells c0 c1 c2 hw0 hy hLI HX h0 hML
      go_wp2_with fail
      refine HL.out.mono ?_
      rintro e w2 ⟨rfl, hb2⟩
      have hat2 := HeapAt.later hat hb2
      have hrow2 : TRow w2 W.heap.size (.slice oa ML.length ocap) ML := Row.later hrow hb2
      have hbt := hb.trans (hb2.mono hb.size)
      have HHL := Lib.hid hls
      clear hat hrow hb hb2 HL hls
      by_cases hw : w0 = 0
      · obtain ⟨c0, c1, c2⟩ := CF.out w2 hbt
        rw [hw] at c0
        have HP := Lib.hid (tpush_any (tOrder W.heap.size) L _ y w2 hbt.size hat2 trivial (fun _ _ => trivial) trivial (by have := hst.perm.length_eq; omega) (by omega))
        have HM := Lib.hid (fun (V B1 W' : World) (o' : Value) hp hB1 hrow' hg ho => mid_push (V := V) (B1 := B1) (W' := W') (o' := o') (o := .slice oa ML.length ocap) (v := y) hn hI hst hat2 (by rw [← HMLq.out]; exact hrow2) hbt hap hp hB1 (by rw [← HMLq.out]; exact hrow') hg ho)
        have HV := Lib.hid (show ∀ V, tPushed tlt w2 W.heap.size W.heap.size 9 #[] L y n s V → Below W.heap.size W V ∧ Row V W.heap.size 26 2 (.slice oa ML.length ocap) ML.length (tS ML) from fun V hp => by
          obtain ⟨s', hat', T⟩ := hp
          exact ⟨hbt.trans (T.below hbt.size (Nat.le_refl _) fun q hq => ((HeapAt.row hat2).lt q hq).1), Row.same hrow2 fun q hq => T.block q (Row.lt hrow2 q hq).2 (hap q hq).1 (hap q hq).2⟩)
        clear hst hat2 hrow2 hap HHL hI hbt
        go_wp2_with fail
        refine HP.out.mono ?_
        rintro e V ⟨rfl, hp⟩
        obtain ⟨hbV, hrV⟩ := HV.out V hp
        have HPP := Lib.hid hp
        have hszV := hbV.size
        obtain ⟨c0, c1, c2⟩ := CF.out V hbV
        clear hp hbV c0
        obtain ⟨i0, hi, hz0, hz1, hz2⟩ := info_parts infoTh
        go_wp2_with (at_builtin; refine wpList_append_row _ rfl (.tmp 70) (.tmp 76) 28 rfl W.heap.size 26 i0 (.agg #[.int .i64 0, .int .i64 0]) 2 16 Try.underlying28 hi hz0 hz1 hz2 rfl (by decide) (.slice oa ML.length ocap) ML.length (tS ML) rfl (Row.alloc hrV _) ⟨V.heap.size, 0, none⟩ 1 1 (tS [y]) rfl rfl ?c1 tS_one ?c3 ?c4 ?c5 ?_)
        case c1 => exact cell_two_new _ _ _ _
        case c3 => unfold maxLen; omega
        case c4 => omega
        case c5 => rw [World.size_alloc]; omega
        intro v3 w3 hrow3 hg3 _ ho3
        have MID := HM.out V _ w3 v3 HPP.out ((Below.refl _ _).alloc (Nat.le_refl _) _) hrow3 hg3 (by rw [World.size_alloc]; exact ho3)
        clear hrow3 hg3 ho3 hrV hi hz0 hz1 hz2 c1 c2 HM HV HP HPP
        obtain ⟨oa', c', ocap', ho', hc', hln, hrl⟩ := mid_use hkN hk300 MID
        subst ho'
        have HLN := Lib.hid hln
        have HRL := Lib.hid hrl
        clear hln hrl MID
        go_wp2_with fail
        refine HLN.out.mono ?_
        rintro e w9 ⟨rfl, rfl⟩
        go_wp2_with fail
        go_roundw
        case rel => first | exact HRL.out | ((repeat apply Exists.intro); exact ⟨HRL.out, rfl⟩)
        case measure => simp [intOf]; omega
      · have hw0 : (w0 == 0) = false := by rw [beq_eq_false_iff_ne]; exact hw
        clear hw
        rcases HHL.out with ⟨hL0, hM0, hz⟩ | ⟨hL0, aa, haM, hz, hgv, hst'⟩
        · subst hz
          subst hL0
          clear HHL hM0
          by_cases hw1 : w0 = 1
          · clear hw0
            have hP := tpop_no w2 hat2
            have HM := Lib.hid (fun (V : World) (hV : Below w2.heap.size w2 V) => mid_same (W' := V) hn hI hst hat2 (by rw [← HMLq.out]; exact hrow2) hbt hap hV)
            have HV := Lib.hid (show ∀ V, Below w2.heap.size w2 V → Below W.heap.size W V from fun V hV => hbt.trans (hV.mono hbt.size))
            have HP := Lib.hid hP
            obtain ⟨c0, c1, c2⟩ := CF.out w2 hbt
            rw [hw1] at c0
            clear hP hst hat2 hrow2 hap hI hbt
            go_wp2_with fail
            refine HP.out.mono ?_
            rintro e V ⟨rfl, hp⟩
            have HPP := Lib.hid hp
            obtain ⟨X, hX⟩ : ∃ X, X = V.alloc (.cells #[.int .i64 0, .int .i64 0] 26) := ⟨_, rfl⟩
            have hbX : Below V.heap.size V X := by rw [hX]; exact (Below.refl _ _).alloc (Nat.le_refl _) _
            have hxb : X.heap[V.heap.size]? = some (.cells #[.int .i64 0, .int .i64 0] 26 (0, 0)) := by rw [hX]; exact heap_alloc_new _ _
            have x0 := cell_of_row _ _ 0 _ _ _ hxb
            have x1 := cell_of_row _ _ 1 _ _ _ hxb
            simp only [List.getElem?_toArray, List.getElem?_cons_zero, List.getElem?_cons_succ] at x0 x1
            have hbV := HV.out V hp
            have HX := Lib.hid hX
            have HBX := Lib.hid hbX
            clear hbV hp hX hbX hxb
            go_wp2_with fail
            rw [← HX.out]
            refine wp_region_ord [(0, true), (1, true), (2, true), (3, true), (4, true), (5, true), (6, true), (7, true), (8, true), (9, true), (10, true), (11, true), (12, true), (13, true), (14, true), (15, true), (16, true), (17, true), (18, true), (19, true), (20, true), (21, true), (22, true), (23, true)] (fun V => V = X.drew) (by kernel_rfl) (by kernel_rfl) (by decide) (by kernel_rfl) (fun d _ _ _ _ h => by cases d <;> exact h) rfl ?_
            iterate 7 ((apply wpOrd_take rfl rfl (by kernel_rfl); (intro V hV; subst hV; go_simp; rfl)); (try simp only [List.setIfInBounds_toArray, List.set_cons_succ, List.set_cons_zero]))
            iterate 6 ((apply wpOrd_skip rfl rfl (by kernel_rfl)); (try simp only [List.setIfInBounds_toArray, List.set_cons_succ, List.set_cons_zero]))
            iterate 11 ((apply wpOrd_take rfl rfl (by kernel_rfl); (intro V hV; subst hV; go_simp; rfl)); (try simp only [List.setIfInBounds_toArray, List.set_cons_succ, List.set_cons_zero]))
            refine wpOrd_nil ?_
            go_wp2_with fail
            have MID := HM.out X.drew (HPP.out.trans (HBX.out.mono HPP.out.size)).drew
            clear x0 x1 c0 c1 c2 HM HV HP HPP
            obtain ⟨oa', c', ocap', ho', hc', hln, hrl⟩ := mid_use hkN hk300 MID
            simp only [Value.slice.injEq] at ho'
            obtain ⟨rfl, hcc, rfl⟩ := ho'
            rw [← hcc] at hln
            clear hcc
            have HLN := Lib.hid hln
            have HRL := Lib.hid hrl
            clear hln hrl MID
            go_wp2_with fail
            refine HLN.out.mono ?_
            rintro e w9 ⟨rfl, rfl⟩
            go_wp2_with fail
            go_roundw
            case rel => first | exact HRL.out | ((repeat apply Exists.intro); exact ⟨HRL.out, rfl⟩)
            case measure => simp [intOf]; omega
          · have hw1' : (w0 == 1) = false := by rw [beq_eq_false_iff_ne]; exact hw1
            clear hw1
            have hP := tpeek_no w2 hat2
            have HM := Lib.hid (fun (V : World) (hV : Below w2.heap.size w2 V) => mid_same (W' := V) hn hI hst hat2 (by rw [← HMLq.out]; exact hrow2) hbt hap hV)
            have HV := Lib.hid (show ∀ V, Below w2.heap.size w2 V → Below W.heap.size W V from fun V hV => hbt.trans (hV.mono hbt.size))
            have HP := Lib.hid hP
            obtain ⟨c0, c1, c2⟩ := CF.out w2 hbt
            clear hP hst hat2 hrow2 hap hI hbt
            go_wp2_with fail
            refine HP.out.mono ?_
            rintro e V ⟨rfl, hp⟩
            have HPP := Lib.hid hp
            obtain ⟨X, hX⟩ : ∃ X, X = V.alloc (.cells #[.int .i64 0, .int .i64 0] 26) := ⟨_, rfl⟩
            have hbX : Below V.heap.size V X := by rw [hX]; exact (Below.refl _ _).alloc (Nat.le_refl _) _
            have hxb : X.heap[V.heap.size]? = some (.cells #[.int .i64 0, .int .i64 0] 26 (0, 0)) := by rw [hX]; exact heap_alloc_new _ _
            have x0 := cell_of_row _ _ 0 _ _ _ hxb
            have x1 := cell_of_row _ _ 1 _ _ _ hxb
            simp only [List.getElem?_toArray, List.getElem?_cons_zero, List.getElem?_cons_succ] at x0 x1
            have hbV := HV.out V hp
            have HX := Lib.hid hX
            have HBX := Lib.hid hbX
            clear hbV hp hX hbX hxb
            go_wp2_with fail
            rw [← HX.out]
            refine wp_region_ord [(0, true), (1, true), (2, true), (3, true), (4, true), (5, true), (6, true), (7, true), (8, true), (9, true), (10, true), (11, true), (12, true), (13, true), (14, true), (15, true), (16, true), (17, true), (18, true), (19, true), (20, true), (21, true), (22, true), (23, true)] (fun V => V = X.drew) (by kernel_rfl) (by kernel_rfl) (by decide) (by kernel_rfl) (fun d _ _ _ _ h => by cases d <;> exact h) rfl ?_
            iterate 7 ((apply wpOrd_take rfl rfl (by kernel_rfl); (intro V hV; subst hV; go_simp; rfl)); (try simp only [List.setIfInBounds_toArray, List.set_cons_succ, List.set_cons_zero]))
            iterate 6 ((apply wpOrd_skip rfl rfl (by kernel_rfl)); (try simp only [List.setIfInBounds_toArray, List.set_cons_succ, List.set_cons_zero]))
            iterate 11 ((apply wpOrd_take rfl rfl (by kernel_rfl); (intro V hV; subst hV; go_simp; rfl)); (try simp only [List.setIfInBounds_toArray, List.set_cons_succ, List.set_cons_zero]))
            refine wpOrd_nil ?_
            go_wp2_with fail
            have MID := HM.out X.drew (HPP.out.trans (HBX.out.mono HPP.out.size)).drew
            clear x0 x1 c0 c1 c2 HM HV HP HPP
            obtain ⟨oa', c', ocap', ho', hc', hln, hrl⟩ := mid_use hkN hk300 MID
            simp only [Value.slice.injEq] at ho'
            obtain ⟨rfl, hcc, rfl⟩ := ho'
            rw [← hcc] at hln
            clear hcc
            have HLN := Lib.hid hln
            have HRL := Lib.hid hrl
            clear hln hrl MID
            go_wp2_with fail
            refine HLN.out.mono ?_
            rintro e w9 ⟨rfl, rfl⟩
            go_wp2_with fail
            go_roundw
            case rel => first | exact HRL.out | ((repeat apply Exists.intro); exact ⟨HRL.out, rfl⟩)
            case measure => simp [intOf]; omega
        · subst hz
          clear HHL
          by_cases hw1 : w0 = 1
          · clear hw0
            have hval : (ML.getD aa default) = (g L 0).1 := hgv
            obtain ⟨v, hv⟩ : ∃ v, v = (g L 0).1 := ⟨_, rfl⟩
            rw [← hv] at hval
            have hP := tpop_yes (tOrder W.heap.size) L _ w2 hbt.size hat2 trivial (fun _ _ => trivial) hL0 (by have := hst.perm.length_eq; omega)
            rw [← hv] at hP
            have HV := Lib.hid (show ∀ V, tPopped tlt w2 W.heap.size W.heap.size 9 #[] L n s V → Below W.heap.size W V ∧ Row V W.heap.size 26 2 (.slice oa ML.length ocap) ML.length (tS ML) from fun V hp => by
              obtain ⟨s', hat', T⟩ := hp
              exact ⟨hbt.trans (T.below hbt.size (Nat.le_refl _) fun q hq => ((HeapAt.row hat2).lt q hq).1), Row.same hrow2 fun q hq => T.block q (Row.lt hrow2 q hq).2 (hap q hq).1 (hap q hq).2⟩)
            have HM := Lib.hid (fun (V B1 W' : World) (o' : Value) hp hB1 hw => mid_pop (V := V) (B1 := B1) (W' := W') (o' := o') hn hI hat2 hbt hst' hp hB1 (by rw [← HMLq.out]; exact hw))
            have HP := Lib.hid hP
            obtain ⟨c0, c1, c2⟩ := CF.out w2 hbt
            rw [hw1] at c0
            have hMs : ML.length < 1000 := by omega
            clear hP hv hst hat2 hrow2 hap hI hbt hst' hgv
            go_wp2_with fail
            refine HP.out.mono ?_
            rintro e V ⟨rfl, hp⟩
            have HPP := Lib.hid hp
            obtain ⟨X, hX⟩ : ∃ X, X = V.alloc (.cells #[.int .i64 v.1, .int .i64 v.2] 26) := ⟨_, rfl⟩
            have hbX : Below V.heap.size V X := by rw [hX]; exact (Below.refl _ _).alloc (Nat.le_refl _) _
            have hxb : X.heap[V.heap.size]? = some (.cells #[.int .i64 v.1, .int .i64 v.2] 26 (0, 0)) := by rw [hX]; exact heap_alloc_new _ _
            have x0 := cell_of_row _ _ 0 _ _ _ hxb
            have x1 := cell_of_row _ _ 1 _ _ _ hxb
            simp only [List.getElem?_toArray, List.getElem?_cons_zero, List.getElem?_cons_succ] at x0 x1
            obtain ⟨hbV, hrV⟩ := HV.out V hp
            obtain ⟨go, oc, hoo, _, _, _, _, hcl, hfr⟩ := (Row.later hrV hbX).form (by omega)
            simp only [Value.slice.injEq, true_and] at hoo
            obtain ⟨rfl, rfl⟩ := hoo
            have m0 := (hcl _ (by omega)).trans (tS_get haM).1
            have m1 := (hcl _ (by omega)).trans (tS_get haM).2
            rw [hval] at m0 m1
            have HRX := Lib.hid (Row.later hrV hbX)
            have HX := Lib.hid hX
            have HBX := Lib.hid hbX
            clear hbV hrV hcl hfr hp hX hbX hxb hval
            go_wp2_with fail
            rw [← HX.out]
            refine wp_region_ord [(0, true), (1, true), (2, true), (3, true), (4, true), (5, true), (6, true), (7, true), (8, true), (9, true), (10, true), (11, true), (12, true), (13, true), (14, true), (15, true), (16, true), (17, true), (18, true), (19, true), (20, true), (21, true), (22, true), (23, true)] (fun V => V = X.drew) (by kernel_rfl) (by kernel_rfl) (by decide) (by kernel_rfl) (fun d _ _ _ _ h => by cases d <;> exact h) rfl ?_
            iterate 19 ((apply wpOrd_take rfl rfl (by kernel_rfl); (intro V hV; subst hV; go_simp; rfl)); (try simp only [List.setIfInBounds_toArray, List.set_cons_succ, List.set_cons_zero]))
            iterate 3 ((apply wpOrd_skip rfl rfl (by kernel_rfl)); (try simp only [List.setIfInBounds_toArray, List.set_cons_succ, List.set_cons_zero]))
            iterate 2 ((apply wpOrd_take rfl rfl (by kernel_rfl); (intro V hV; subst hV; go_simp; rfl)); (try simp only [List.setIfInBounds_toArray, List.set_cons_succ, List.set_cons_zero]))
            refine wpOrd_nil ?_
            go_wp2_with fail
            refine (without_any X.drew W.heap.size _ ML aa (Row.drew HRX.out) haM (by omega)).mono ?_
            rintro e W9 hwp
            obtain ⟨o9, rfl, hr9, hb9⟩ := hwp
            have MID := HM.out V X.drew W9 o9 HPP.out HBX.out.drew ⟨o9, rfl, hr9, hb9⟩
            clear hr9 hb9 x0 x1 m0 m1 c0 c1 c2 HM HV HP HPP
            go_wp2_with fail
            obtain ⟨oa', c', ocap', ho', hc', hln, hrl⟩ := mid_use hkN hk300 MID
            subst ho'
            have HLN := Lib.hid hln
            have HRL := Lib.hid hrl
            clear hln hrl MID
            go_wp2_with fail
            refine HLN.out.mono ?_
            rintro e w9 ⟨rfl, rfl⟩
            go_wp2_with fail
            go_roundw
            case rel => first | exact HRL.out | ((repeat apply Exists.intro); exact ⟨HRL.out, rfl⟩)
            case measure => simp [intOf]; omega
          · have hw1' : (w0 == 1) = false := by rw [beq_eq_false_iff_ne]; exact hw1
            clear hw1
            have hval : (ML.getD aa default) = (g L 0).1 := hgv
            obtain ⟨v, hv⟩ : ∃ v, v = (g L 0).1 := ⟨_, rfl⟩
            rw [← hv] at hval
            have hP := tpeek_yes w2 hat2 hL0
            rw [← hv] at hP
            have HM := Lib.hid (fun (V : World) (hV : Below w2.heap.size w2 V) => mid_same (W' := V) hn hI hst hat2 (by rw [← HMLq.out]; exact hrow2) hbt hap hV)
            have HV := Lib.hid (show ∀ V, Below w2.heap.size w2 V → Below W.heap.size W V ∧ Row V W.heap.size 26 2 (.slice oa ML.length ocap) ML.length (tS ML) from fun V hV => ⟨hbt.trans (hV.mono hbt.size), Row.later hrow2 hV⟩)
            have HP := Lib.hid hP
            obtain ⟨c0, c1, c2⟩ := CF.out w2 hbt
            have hMs : ML.length < 1000 := by omega
            clear hP hv hst hat2 hrow2 hap hI hbt hst' hgv
            go_wp2_with fail
            refine HP.out.mono ?_
            rintro e V ⟨rfl, hp⟩
            have HPP := Lib.hid hp
            obtain ⟨X, hX⟩ : ∃ X, X = V.alloc (.cells #[.int .i64 v.1, .int .i64 v.2] 26) := ⟨_, rfl⟩
            have hbX : Below V.heap.size V X := by rw [hX]; exact (Below.refl _ _).alloc (Nat.le_refl _) _
            have hxb : X.heap[V.heap.size]? = some (.cells #[.int .i64 v.1, .int .i64 v.2] 26 (0, 0)) := by rw [hX]; exact heap_alloc_new _ _
            have x0 := cell_of_row _ _ 0 _ _ _ hxb
            have x1 := cell_of_row _ _ 1 _ _ _ hxb
            simp only [List.getElem?_toArray, List.getElem?_cons_zero, List.getElem?_cons_succ] at x0 x1
            obtain ⟨hbV, hrV⟩ := HV.out V hp
            obtain ⟨go, oc, hoo, _, _, _, _, hcl, hfr⟩ := (Row.later hrV hbX).form (by omega)
            simp only [Value.slice.injEq, true_and] at hoo
            obtain ⟨rfl, rfl⟩ := hoo
            have m0 := (hcl _ (by omega)).trans (tS_get haM).1
            have m1 := (hcl _ (by omega)).trans (tS_get haM).2
            rw [hval] at m0 m1
            have HRX := Lib.hid (Row.later hrV hbX)
            have HX := Lib.hid hX
            have HBX := Lib.hid hbX
            clear hbV hrV hcl hfr hp hX hbX hxb hval
            go_wp2_with fail
            rw [← HX.out]
            refine wp_region_ord [(0, true), (1, true), (2, true), (3, true), (4, true), (5, true), (6, true), (7, true), (8, true), (9, true), (10, true), (11, true), (12, true), (13, true), (14, true), (15, true), (16, true), (17, true), (18, true), (19, true), (20, true), (21, true), (22, true), (23, true)] (fun V => V = X.drew) (by kernel_rfl) (by kernel_rfl) (by decide) (by kernel_rfl) (fun d _ _ _ _ h => by cases d <;> exact h) rfl ?_
            iterate 19 ((apply wpOrd_take rfl rfl (by kernel_rfl); (intro V hV; subst hV; go_simp; rfl)); (try simp only [List.setIfInBounds_toArray, List.set_cons_succ, List.set_cons_zero]))
            iterate 3 ((apply wpOrd_skip rfl rfl (by kernel_rfl)); (try simp only [List.setIfInBounds_toArray, List.set_cons_succ, List.set_cons_zero]))
            iterate 2 ((apply wpOrd_take rfl rfl (by kernel_rfl); (intro V hV; subst hV; go_simp; rfl)); (try simp only [List.setIfInBounds_toArray, List.set_cons_succ, List.set_cons_zero]))
            refine wpOrd_nil ?_
            go_wp2_with fail
            have MID := HM.out X.drew (HPP.out.trans (HBX.out.mono HPP.out.size)).drew
            clear x0 x1 c0 c1 c2 HM HV HP HPP
            obtain ⟨oa', c', ocap', ho', hc', hln, hrl⟩ := mid_use hkN hk300 MID
            simp only [Value.slice.injEq] at ho'
            obtain ⟨rfl, hcc, rfl⟩ := ho'
            rw [← hcc] at hln
            clear hcc
            have HLN := Lib.hid hln
            have HRL := Lib.hid hrl
            clear hln hrl MID
            go_wp2_with fail
            refine HLN.out.mono ?_
            rintro e w9 ⟨rfl, rfl⟩
            go_wp2_with fail
            go_roundw
            case rel => first | exact HRL.out | ((repeat apply Exists.intro); exact ⟨HRL.out, rfl⟩)
            case measure => simp [intOf]; omega
    · have hex : N ≤ k ∨ (k < N ∧ 300 ≤ k) := by omega
      have HB := Lib.hid hb
      clear hst hat hrow hap hb hgo
      rcases hex with hx | ⟨hx, hx'⟩
      all_goals
        go_wp2_with fail
        refine (works_any _).mono ?_
        rintro e w2 ⟨rfl, hb2⟩
        go_wp2_with fail
        go_ret
        exact ⟨rfl, HB.out.trans (hb2.mono HB.out.size)⟩

end Go.Proofs.Ytbigglcolfbglaa
